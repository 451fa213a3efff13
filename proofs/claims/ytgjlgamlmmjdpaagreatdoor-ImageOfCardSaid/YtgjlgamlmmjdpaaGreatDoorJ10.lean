/- Lemmas, laid together: part 10 of 43. Conditions: none but each lemma's own. -/
import Derived.Test.YtgjlgamlmmjdpaaGreatDoorJ8
import Derived.Maps.AppendAt
import Derived.Test.YtgjlgamlmmjdpaaGreatDoorJ2
import Derived.Test.YtgjlgamlmmjdpaaGreatDoorProg
import Derived.Lib.Strings
import Derived.Test.YtgjlgamlmmjdpaaGreatDoorJ9
import Derived.Test.YtgjlgamlmmjdpaaGreatDoorJ3
/- Lemmas on memory: rows of the call's own, append, bytes as a string, cursors carried along. -/
namespace Go.Proofs.YtgjlgamlmmjdpaaGreatDoor
open Go.RowKit
set_option maxRecDepth 100000

theorem env_ne {w : World} {b : Nat} {s : CS} (hg : Env w) (h : CurB w b s) : b ≠ 0 := by
  rintro rfl
  obtain ⟨_, _, _, hb, _⟩ := h
  have h0 := cell_of_heap hb 0
  unfold Env at hg
  rw [hg] at h0
  simp at h0
theorem env_ne_int {w : World} {b : Nat} {K : IntKind} {a : Int} {T : TypeId} {fz : Nat × Nat} (hg : Env w) (h : w.heap[b]? = some (.cells #[.int K a] T fz)) : b ≠ 0 := by
  rintro rfl
  have h0 := cell_of_heap h 0
  unfold Env at hg
  rw [hg] at h0
  simp at h0
theorem cell_one_new' (w : World) (v : Value) (T : TypeId) : ∀ j u, [v][j]? = some u → (w.alloc (.cells #[v] T)).cell? ((⟨w.heap.size, 0, none⟩ : Addr).add j) = some u := by
  intro j u hj
  match j, hj with
  | 0, hj => simp at hj; subst hj; simp [Addr.add]
theorem one_int (k : IntKind) (n : Int) : ∀ u ∈ [Value.int k n], u.oneCell' = true := by
  intro u hu; simp at hu; subst hu; rfl
theorem owned_lit (w : World) (base : Nat) (xs : List Value) (E : TypeId) (n : Nat) (hb : base ≤ w.heap.size) (hn : n = xs.length) (hm : n ≤ maxLen) :
    (w.alloc (.cells xs.toArray E)).ownsRow base E 1 (.slice (some ⟨w.heap.size, 0, none⟩) n n) n xs :=
  ⟨by rw [hn, Nat.mul_one], .inr ⟨w.heap.size, n, _, rfl, hb, heap_alloc_eq w _, Nat.le_refl _, hm, by simp [hn], by rw [hn, Nat.mul_one]; simp⟩⟩
theorem owned_frame {w w' : World} {base : Nat} {e : TypeId} {size : Nat} {v : Value} {n : Nat} {xs : List Value} (h : w.ownsRow base e size v n xs) {S : List Nat} (k : Chg S w w') (hn : ∀ b, v.ownBlock = some b → b ∉ S) : w'.ownsRow base e size v n xs := by
  refine ⟨h.1, ?_⟩
  rcases h.2 with hn' | ⟨g, cap, cur, rfl, hb, hgg, rest⟩
  · exact .inl hn'
  · exact .inr ⟨g, cap, cur, rfl, hb, k.heap hgg (hn g rfl), rest⟩
theorem owned_base {w : World} {base base' : Nat} {e : TypeId} {size : Nat} {v : Value} {n : Nat} {xs : List Value} (h : w.ownsRow base e size v n xs) (hb : base' ≤ base) : w.ownsRow base' e size v n xs := by
  refine ⟨h.1, ?_⟩
  rcases h.2 with hn' | ⟨g, cap, cur, rfl, hb', hgg, rest⟩
  · exact .inl hn'
  · exact .inr ⟨g, cap, cur, rfl, by omega, hgg, rest⟩
/-- A row that is not empty lies somewhere. -/
theorem owned_at {w : World} {base : Nat} {e : TypeId} {v : Value} {n : Nat} {xs : List Value} (h : w.ownsRow base e 1 v n xs) (hp : 0 < n) :
    ∃ g cap, v = .slice (some ⟨g, 0, none⟩) n cap ∧ n ≤ cap ∧ cap ≤ maxLen ∧ base ≤ g ∧ g < w.heap.size ∧ ∀ j u, xs[j]? = some u → w.cell? ((⟨g, 0, none⟩ : Addr).add j) = some u := by
  rcases h.2 with ⟨_, h0⟩ | ⟨g, cap, cur, rfl, hb, hg, hnc, hcm, _⟩
  · omega
  · exact ⟨g, cap, rfl, hnc, hcm, hb, lt_of_heap hg, h.cells rfl⟩
theorem bytes_one (l : List UInt8) : ∀ u ∈ bytesV l, u.oneCell' = true := by
  intro u hu
  obtain ⟨x, _, rfl⟩ := List.mem_map.1 hu
  rfl
theorem bytesV_ofNat (x : Nat) (h : x < 256) : bytesV [UInt8.ofNat x] = [.int .u8 x] := by
  have e : (UInt8.ofNat x).toNat = x := by simp; omega
  simp [bytesV, byteV, e]
theorem bytesV_append (a b : List UInt8) : bytesV (a ++ b) = bytesV a ++ bytesV b := by simp [bytesV]

theorem foldl_push (ns : List Int) (s : ByteArray) : ns.foldl (fun r n => r.push (UInt8.ofNat n.toNat)) s = ⟨s.data ++ (ns.map fun n => UInt8.ofNat n.toNat).toArray⟩ := by
  induction ns generalizing s with
  | nil => simp
  | cons n r ih => simp only [List.foldl_cons, ih]; simp [ByteArray.push]
theorem Rd_bytes_cells {w : World} {ad : Addr} {n cap : Nat} {l : List UInt8} (h : Rd w (.slice (some ad) n cap) (bytesV l)) :
    n = l.length ∧ ∀ j u, (bytesV l)[j]? = some u → w.cell? (ad.add j) = some u := by
  obtain ⟨a', n', cap', he, hn, _, _, hx⟩ := h
  cases he
  rw [bytesV_length] at hn
  refine ⟨hn, fun j u hu => ?_⟩
  have hne : bytesV l ≠ [] := by intro e; rw [e] at hu; simp at hu
  obtain ⟨b, off, hb, hc⟩ := hx hne
  cases hb
  rw [Addr_add, hc j (by rcases Nat.lt_or_ge j (bytesV l).length with h | h; exact h; rw [List.getElem?_eq_none_iff.2 h] at hu; cases hu)]
  exact hu
theorem app_bytes_at {w : World} {ops : Array Oper} {rest : List Oper} {o : Oper} {a : Act} {Q : Exit → Act → World → Prop} (hgd : o.guard = none) (s x : Operand)
    (ho : o.op = .call { callee := .builtin .append, args := #[s, x], argTypes := #[22, 22] })
    (base : Nat) (v : Value) (n : Nat) (xs : List Value) (hs : a.eval s = v) (hown : w.ownsRow base 5 1 v n xs)
    (xv : Value) (hx : a.eval x = xv) (l : List UInt8) (hrd : Rd w xv (bytesV l)) (hle : n + l.length ≤ 140737488355328) (hbase : base ≤ w.heap.size)
    (h : ∀ v' w', w'.ownsRow base 5 1 v' (n + l.length) (xs ++ bytesV l) → w.grownBy w' v.ownBlock → (v'.ownBlock = v.ownBlock ∨ v'.ownBlock = some w.heap.size) → wpList Tryz.prog ops Q rest (a.put o.dst v') w') :
    wpList Tryz.prog ops Q (o :: rest) a w := by
  obtain ⟨i0, hi, hz0, hz1, hz2⟩ := info_parts Tryz.infoU8
  obtain ⟨ax, m, c, rfl, hm, _, _, hcl⟩ := id hrd
  rw [bytesV_length] at hm
  cases ax with
  | none =>
    have hl : l = [] := by
      cases l with
      | nil => rfl
      | cons b l => obtain ⟨_, _, h, _⟩ := hcl (by simp [bytesV]); cases h
    subst hl
    simp only [List.length_nil] at hm
    subst hm
    refine wpList_plain hgd fun K hK => ?_
    have hrun : (Builtin.append_ #[22, 22] o.type #[v, .slice none 0 c]).run Tryz.prog w = .ok v w := by
      rcases hown.2 with ⟨rfl, rfl⟩ | ⟨g, cap, cur, rfl, _, _, hnc, _⟩
      · simp [Builtin.append_, run_underlying Tryz.underlying22, sizeOf, typeInfo, hi, Builtin.lenOf, Builtin.firstCells]
      · simp [Builtin.append_, run_underlying Tryz.underlying22, sizeOf, typeInfo, hi, Builtin.lenOf, Builtin.firstCells, hnc, storeCells]
    unfold Oper.wp
    simp [execOp, ho, resolve, invoke, builtin, hs, hx, hrun, Result.andThen]
    have := h v w (by simpa [bytesV] using hown) ⟨rfl, rfl, rfl, Nat.le_refl _, fun _ _ _ => rfl⟩ (.inl rfl)
    exact hK _ _ this
  | some ad =>
    obtain ⟨hl, hc⟩ := Rd_bytes_cells hrd
    subst hl
    refine wpList_append_own_at _ hgd s x 22 ho base 5 i0 (.int .u8 0) 1 1 Tryz.underlying22 hi hz0 hz1 hz2 rfl (by decide) v n xs hs hown ad l.length c (bytesV l) hx (by rw [bytesV_length, Nat.mul_one]) hc (bytes_one _) (by unfold maxLen; omega) (by omega) hbase (fun v' w' h1 h2 _ h3 => h v' w' h1 h2 h3)
theorem app_bytes {w : World} {ops : Array Oper} {rest : List Oper} {o : Oper} {a : Act} {Q : Exit → Act → World → Prop} (hgd : o.guard = none) (s x : Operand)
    (ho : o.op = .call { callee := .builtin .append, args := #[s, x], argTypes := #[22, 22] })
    (base : Nat) (v : Value) (n : Nat) (xs : List Value) (hs : a.eval s = v) (hown : w.ownsRow base 5 1 v n xs)
    (xv : Value) (hx : a.eval x = xv) (l : List UInt8) (hrd : Rd w xv (bytesV l)) (hle : n + l.length ≤ 140737488355328) (hbase : base ≤ w.heap.size)
    (h : ∀ v' w', w'.ownsRow base 5 1 v' (n + l.length) (xs ++ bytesV l) → w.grownBy w' v.ownBlock → wpList Tryz.prog ops Q rest (a.put o.dst v') w') :
    wpList Tryz.prog ops Q (o :: rest) a w :=
  app_bytes_at hgd s x ho base v n xs hs hown xv hx l hrd hle hbase (fun v' w' h1 h2 _ => h v' w' h1 h2)
/-- The one byte that 'append(x, b)' lays ahead. -/
theorem Rd_one (w : World) (b : UInt8) (t : TypeId) : Rd (w.alloc (.cells #[.int .u8 b.toNat] t)) (.slice (some ⟨w.heap.size, 0, none⟩) 1 1) (bytesV [b]) := by
  refine ⟨_, _, _, rfl, rfl, Nat.le_refl _, by unfold maxLen; omega, fun _ => ⟨_, _, rfl, fun j hj => ?_⟩⟩
  obtain rfl : j = 0 := by simp [bytesV] at hj; exact hj
  rw [cell_of_heap (heap_alloc_eq w _)]
  rfl
/-- A buffer of the call's own: its bytes. -/
def Buf (w : World) (base : Nat) (v : Value) (l : List UInt8) : Prop := w.ownsRow base 5 1 v l.length (bytesV l)
theorem Buf.mk' {w : World} {base n : Nat} {v : Value} {l : List UInt8} (h : w.ownsRow base 5 1 v n (bytesV l)) : Buf w base v l := by
  have : n = l.length := by have := h.1; rw [bytesV_length] at this; omega
  subst this; exact h
theorem Buf.nil (w : World) (base : Nat) : Buf w base (.slice none 0 0) [] := World.ownsRow_nil w base 5 1
theorem Buf.frame {w w' : World} {base : Nat} {v : Value} {l : List UInt8} (h : Buf w base v l) {S : List Nat} (k : Chg S w w') (hn : ∀ b, v.ownBlock = some b → b ∉ S) : Buf w' base v l := owned_frame h k hn
theorem Buf.pure {w w' : World} {base : Nat} {v : Value} {l : List UInt8} (h : Buf w base v l) (k : Chg [] w w') : Buf w' base v l := h.frame k (fun _ _ hm => by cases hm)
theorem Buf.rd {w : World} {base : Nat} {v : Value} {l : List UInt8} (h : Buf w base v l) : Rd w v (bytesV l) := Rd.owned h
theorem Buf.app {w' : World} {base : Nat} {v : Value} {l m : List UInt8} (h : w'.ownsRow base 5 1 v (l.length + m.length) (bytesV l ++ bytesV m)) : Buf w' base v (l ++ m) := by
  unfold Buf; rw [List.length_append, bytesV_append]; exact h
/-- Two buffers of the call's own, apart. -/
structure Two (w : World) (base : Nat) (v1 : Value) (l1 : List UInt8) (v2 : Value) (l2 : List UInt8) : Prop where
  one : Buf w base v1 l1
  two : Buf w base v2 l2
  ne : ∀ k, v1.ownBlock = some k → v2.ownBlock ≠ some k
section
variable {w w' : World} {base : Nat} {v1 v2 : Value} {l1 l2 : List UInt8}
theorem Two.swap (h : Two w base v1 l1 v2 l2) : Two w base v2 l2 v1 l1 := ⟨h.two, h.one, fun k h1 h2 => h.ne k h2 h1⟩
theorem Two.pure (h : Two w base v1 l1 v2 l2) (k : Chg [] w w') : Two w' base v1 l1 v2 l2 := ⟨h.one.pure k, h.two.pure k, h.ne⟩
theorem Two.app (h : Two w base v1 l1 v2 l2) {v : Value} {l : List UInt8} (hv : w'.ownsRow base 5 1 v (l1.length + l.length) (bytesV l1 ++ bytesV l)) (hg : w.grownBy w' v1.ownBlock)
    (ha : v.ownBlock = v1.ownBlock ∨ v.ownBlock = some w.heap.size) : Two w' base v (l1 ++ l) v2 l2 := by
  have hne : v2.ownBlock = none ∨ v2.ownBlock ≠ v1.ownBlock := by
    cases h2 : v2.ownBlock with
    | none => exact .inl rfl
    | some k => exact .inr (fun e => h.ne k e.symm h2)
  refine ⟨Buf.app hv, World.ownsRow.kept h.two hg hne, fun k hk h2 => ?_⟩
  rcases ha with e | e
  · exact h.ne k (e ▸ hk) h2
  · rw [e] at hk
    have := (World.ownsRow.lt h.two k h2).2
    cases hk
    omega
end

theorem Rd_new (w : World) (xs : List Value) (T : TypeId) (n : Nat) (hn : n = xs.length) (hl : xs.length ≤ maxLen) : Rd (w.alloc (.cells xs.toArray T)) (.slice (some ⟨w.heap.size, 0, none⟩) n n) xs := by
  refine ⟨_, _, _, rfl, hn, Nat.le_refl _, by rw [hn]; exact hl, fun _ => ⟨_, _, rfl, fun j _ => ?_⟩⟩
  rw [Nat.zero_add, World.cell?_alloc_at _ _ _ _ rfl]
  simp
/-- Since world w0 nothing has turned but new blocks; there stand the cursors cs, no two of them one. -/
structure Curs (w0 w : World) (cs : List (Nat × CS)) : Prop where
  env : Env w
  chg : Chg [] w0 w
  all : ∀ p ∈ cs, w0.heap.size ≤ p.1 ∧ CurB w p.1 p.2
  nodup : (cs.map (·.1)).Nodup
theorem Curs.start {w : World} (h : Env w) : Curs w w [] := ⟨h, Chg.refl _ _, fun _ hp => (by cases hp), by simp⟩
theorem Curs.pure {w0 w w' : World} {cs : List (Nat × CS)} (h : Curs w0 w cs) (k : Chg [] w w') : Curs w0 w' cs :=
  ⟨h.env.frame k (by simp), h.chg.then k, fun p hp => ⟨(h.all p hp).1, (h.all p hp).2.frame k⟩, h.nodup⟩
theorem Curs.dr {w0 w w' : World} {cs : List (Nat × CS)} (h : Curs w0 w cs) (k : Dr w w') : Curs w0 w' cs := h.pure ((Chg.refl [] _).dr k)
theorem Curs.alloc {w0 w : World} {cs : List (Nat × CS)} (h : Curs w0 w cs) (o : Obj) : Curs w0 (w.alloc o) cs := h.pure ((Chg.refl [] _).alloc o)
theorem Curs.new {w0 w w' : World} {cs : List (Nat × CS)} {b : Nat} {s : CS} (h : Curs w0 w cs) (k : Chg [] w w') (hb : CurB w' b s) (hn : w.heap.size ≤ b) : Curs w0 w' ((b, s) :: cs) := by
  have h' := h.pure k
  refine ⟨h'.env, h'.chg, fun p hp => ?_, ?_⟩
  · cases hp with
    | head => exact ⟨Nat.le_trans h.chg.size hn, hb⟩
    | tail _ hp => exact h'.all p hp
  · rw [List.map_cons, List.nodup_cons]
    refine ⟨fun hm => ?_, h.nodup⟩
    obtain ⟨p, hp, he⟩ := List.mem_map.1 hm
    have := (h.all p hp).2.lt
    have he' : p.1 = b := he
    omega
theorem Curs.cur {w0 w : World} {cs : List (Nat × CS)} {b : Nat} {s : CS} (h : Curs w0 w ((b, s) :: cs)) : CurB w b s := (h.all (b, s) (List.mem_cons_self ..)).2
theorem Curs.tail {w0 w : World} {cs : List (Nat × CS)} {p : Nat × CS} (h : Curs w0 w (p :: cs)) : Curs w0 w cs :=
  ⟨h.env, h.chg, fun q hq => h.all q (List.mem_cons_of_mem _ hq), (List.nodup_cons.1 h.nodup).2⟩
/-- A call of a method of the first one. -/
theorem Curs.call {w0 w w' : World} {cs : List (Nat × CS)} {b : Nat} {s s' : CS} (h : Curs w0 w ((b, s) :: cs)) (hb : CurB w' b s') (k : Chg [b] w w') : Curs w0 w' ((b, s') :: cs) := by
  have hnd := List.nodup_cons.1 h.nodup
  have h0 := (h.all (b, s) (List.mem_cons_self ..)).1
  refine ⟨h.env.frame k (by have := env_ne h.env h.cur; simp; omega), h.chg.new k h0, fun p hp => ?_, h.nodup⟩
  cases hp with
  | head => exact ⟨h0, hb⟩
  | tail _ hp =>
    have hp' := h.all p (List.mem_cons_of_mem _ hp)
    refine ⟨hp'.1, hp'.2.frame2 h.cur (fun e => hnd.1 ?_) k⟩
    exact List.mem_map.2 ⟨p, hp, e⟩
theorem Curs.perm {w0 w : World} {cs cs' : List (Nat × CS)} (h : Curs w0 w cs) (hp : cs.Perm cs') : Curs w0 w cs' :=
  ⟨h.env, h.chg, fun p hm => h.all p (hp.mem_iff.2 hm), (hp.map _).nodup_iff.1 h.nodup⟩
theorem Curs.swap {w0 w : World} {cs : List (Nat × CS)} {p q : Nat × CS} (h : Curs w0 w (p :: q :: cs)) : Curs w0 w (q :: p :: cs) := h.perm (List.Perm.swap ..)
theorem Curs.third {w0 w : World} {cs : List (Nat × CS)} {p q r : Nat × CS} (h : Curs w0 w (p :: q :: r :: cs)) : Curs w0 w (r :: p :: q :: cs) :=
  h.perm ((List.Perm.cons p (List.Perm.swap ..)).trans (List.Perm.swap ..))
set_option maxRecDepth 100000
theorem Clone_any (v : Value) (l : List UInt8) (w : World) (hv : Rd w v (bytesV l)) (hl : l.length ≤ 140737488355328) :
    Calls Tryz.prog 71 #[v] w fun e w' => ∃ v', e = .returned v' ∧ Buf w' w.heap.size v' l ∧ Chg [] w w' := by
  obtain ⟨a, n, cap, rfl, hn, hnc, hcm, hx⟩ := hv
  rw [bytesV_length] at hn
  subst hn
  cases a with
  | none =>
    have hnil : l = [] := by
      cases l with
      | nil => rfl
      | cons x r => obtain ⟨b, off, h, _⟩ := hx (by simp [bytesV]); cases h
    subst hnil
    exact (Clone_nil _ _ w).mono fun e w' ⟨he, hw⟩ => ⟨_, he, Buf.nil _ _, by rw [← hw]; exact Chg.refl _ _⟩
  | some ad =>
    refine (Clone_some ad _ cap (bytesV l) w (bytesV_length l).symm hl (bytes_one l) ?_).mono fun e w' ⟨v', he, ho, hc⟩ => ⟨v', he, ho, hc⟩
    intro j u hu
    obtain ⟨hj, _⟩ := List.getElem?_eq_some_iff.1 hu
    obtain ⟨b, off, h, hcell⟩ := hx (by intro e; rw [e] at hj; simp at hj)
    cases h
    rw [Addr_add, hcell j hj, hu]
theorem takeL_len_le {w : World} {b : Nat} {s : CS} (h : CurB w b s) (m : Int) : (takeL s m).length ≤ 140737488355328 := by
  have := h.len_le
  cases hc : canTake s m with
  | false => rw [takeL_no hc]; simp
  | true =>
    have h1 := takeL_length h.at_le hc
    obtain ⟨_, h0, h2⟩ := canTake_spec hc
    omega
theorem Bytes_cur (b : Nat) (s : CS) (m : Int) (w : World) (h : CurB w b s) :
    Calls Tryz.prog 76 #[.pointer (some ⟨b, 0, none⟩), .int .i64 m] w fun e w' => ∃ v, e = .returned v ∧ CurB w' b (takeS s m) ∧ Buf w' w.heap.size v (takeL s m) ∧ Chg [b] w w' := by
  have HL := Lib.hid (takeL_len_le h m)
  have H := Lib.hid h
  clear h
  go_enter Tryz.func76, Tryz.ntmps76
  go_wp2_with fail
  refine (take_cur b s m w H.out).mono ?_
  rintro e w1 ⟨v, rfl, hcx, hrd, hch⟩
  have hsz := hch.size
  have Hcx := Lib.hid hcx
  have Hrd := Lib.hid hrd
  have Hch := Lib.hid hch
  clear hcx hrd hch
  go_wp2_with fail
  refine (Clone_any v _ w1 Hrd.out HL.out).mono ?_
  rintro e w2 ⟨v', rfl, hb, hc2⟩
  have HB := Lib.hid (owned_base hb hsz)
  have Hc2 := Lib.hid hc2
  have Hb := Lib.hid hb
  clear hc2 hb
  go_wp2
  go_ret
  exact ⟨_, rfl, Hcx.out.frame Hc2.out, HB.out, Hch.out.then Hc2.out⟩
/-- A write to blocks behind the cursor's own. -/
theorem CurB.far {w w' : World} {b : Nat} {s : CS} (h : CurB w b s) {S : List Nat} (k : Chg S w w') (hS : ∀ i ∈ S, b < i) : CurB w' b s := by
  obtain ⟨a, n, cap, hb, h1, h2, h3, h4, h5, h6⟩ := h
  refine ⟨a, n, cap, k.heap hb (fun hm => by have := hS b hm; omega), h1, h2, h3, h4, h5, fun hn => ?_⟩
  obtain ⟨d, off, c, ha, hdb, hd, hc⟩ := h6 hn
  have hdS : d ∉ S := fun hm => by have := hS d hm; omega
  exact ⟨d, off, c, ha, hdb, k.heap hd hdS, fun j hj => k.cell (hc j hj) hdS⟩
theorem Chg.of_grown {a b : World} {row : Option Nat} (g : a.grownBy b row) : Chg row.toList a b :=
  ⟨g.os, g.tape, g.output, g.size, fun k hk hn => g.block k hk (fun e => hn (by rw [← e]; simp))⟩
theorem Curs.far {w0 w w' : World} {cs : List (Nat × CS)} (h : Curs w0 w cs) {S : List Nat} (k : Chg S w w') (hS : ∀ i ∈ S, w0.heap.size ≤ i ∧ 0 < i ∧ ∀ p ∈ cs, p.1 < i) : Curs w0 w' cs :=
  ⟨h.env.frame k (fun hm => by have := (hS _ hm).2.1; omega), h.chg.trans k (fun i hm hi => by have := (hS _ hm).1; omega), fun p hp => ⟨(h.all p hp).1, (h.all p hp).2.far k (fun i hi => (hS i hi).2.2 p hp)⟩, h.nodup⟩
theorem buf_ne {w : World} {base b : Nat} {v : Value} {l : List UInt8} {s : CS} (h : Buf w base v l) (hb : CurB w b s) : ∀ k, v.ownBlock = some k → k ∉ [b] := by
  intro k hk hm
  rw [List.mem_singleton] at hm
  subst hm
  obtain ⟨_, _, _, hbb, _⟩ := hb
  rcases h.2 with ⟨rfl, _⟩ | ⟨g, cap, cur, rfl, _, hg, _⟩
  · cases hk
  · cases hk
    rw [hg] at hbb
    simp at hbb
end Go.Proofs.YtgjlgamlmmjdpaaGreatDoor
/- Records: sections (printed by mkrecs.sh). -/
namespace Go.Proofs.YtgjlgamlmmjdpaaGreatDoor
open Go.RowKit
set_option maxRecDepth 100000

/-- A record Sec. -/
structure Sec where
  name : ByteArray
  seg : ByteArray
  addr : Int
  size : Int
  off : Int
  kind : Int
def Sec.cells (s : Sec) : List Value := [.string s.name, .string s.seg, .int .u64 s.addr, .int .u64 s.size, .int .u64 s.off, .int .i64 s.kind]
abbrev Sec.v (s : Sec) : Value := .agg #[.string s.name, .string s.seg, .int .u64 s.addr, .int .u64 s.size, .int .u64 s.off, .int .i64 s.kind]
/-- Its numbers are of their kinds. -/
def Sec.wf (s : Sec) : Prop := (Lit.int .u64 s.addr).wf = true ∧ (Lit.int .u64 s.size).wf = true ∧ (Lit.int .u64 s.off).wf = true ∧ (Lit.int .i64 s.kind).wf = true
def Sec.zero : Sec := ⟨⟨#[]⟩, ⟨#[]⟩, 0, 0, 0, 0⟩
def secL : Lay Sec := ⟨6, Sec.cells, Sec.zero, fun _ => rfl, by decide, fun x u hu => by
  simp only [Sec.cells, List.mem_cons, List.not_mem_nil, or_false] at hu
  rcases hu with rfl | rfl | rfl | rfl | rfl | rfl <;> rfl⟩
theorem Sec.at {w : World} {b o : Nat} {s : Sec} (h : secL.In w b o s) : w.cell? ⟨b, o, none⟩ = some (.string s.name) ∧ w.cell? ⟨b, o + 1, none⟩ = some (.string s.seg) ∧ w.cell? ⟨b, o + 2, none⟩ = some (.int .u64 s.addr) ∧ w.cell? ⟨b, o + 3, none⟩ = some (.int .u64 s.size) ∧ w.cell? ⟨b, o + 4, none⟩ = some (.int .u64 s.off) ∧ w.cell? ⟨b, o + 5, none⟩ = some (.int .i64 s.kind) :=
  ⟨h 0 (by decide), h 1 (by decide), h 2 (by decide), h 3 (by decide), h 4 (by decide), h 5 (by decide)⟩
theorem Sec.at0 {w : World} {b : Nat} {s : Sec} (h : secL.In w b 0 s) : w.cell? ⟨b, 0, none⟩ = some (.string s.name) ∧ w.cell? ⟨b, 1, none⟩ = some (.string s.seg) ∧ w.cell? ⟨b, 2, none⟩ = some (.int .u64 s.addr) ∧ w.cell? ⟨b, 3, none⟩ = some (.int .u64 s.size) ∧ w.cell? ⟨b, 4, none⟩ = some (.int .u64 s.off) ∧ w.cell? ⟨b, 5, none⟩ = some (.int .i64 s.kind) := by
  obtain ⟨h0, h1, h2, h3, h4, h5⟩ := Sec.at h
  simp only [Nat.zero_add] at h1 h2 h3 h4 h5
  exact ⟨h0, h1, h2, h3, h4, h5⟩
theorem Sec.boxed (w : World) (s : Sec) (T : TypeId) : secL.In (w.alloc (.cells #[.string s.name, .string s.seg, .int .u64 s.addr, .int .u64 s.size, .int .u64 s.off, .int .i64 s.kind] T)) w.heap.size 0 s := fun c _ => by
  rw [cell_of_heap (heap_alloc_eq w _), Nat.zero_add]
  exact List.getElem?_toArray ..
/-- A record in a block of its own: made, written, a field written. -/
theorem Sec.box (w : World) (s : Sec) (T : TypeId) : secL.Box (w.alloc (.cells #[.string s.name, .string s.seg, .int .u64 s.addr, .int .u64 s.size, .int .u64 s.off, .int .i64 s.kind] T)) w.heap.size s := Lay.Box.of_alloc (L := secL) w s T
theorem Sec.boxAt (w : World) (s : Sec) (T : TypeId) {b : Nat} (hb : b = w.heap.size) : secL.Box (w.alloc (.cells #[.string s.name, .string s.seg, .int .u64 s.addr, .int .u64 s.size, .int .u64 s.off, .int .i64 s.kind] T)) b s := by rw [hb]; exact Sec.box w s T
theorem Sec.put0 {w : World} {g : Nat} {y : Sec} (h : secL.Box w g y) (s : Sec) : secL.Box ((((((w.setCell ⟨g, 0, none⟩ (.string s.name)).setCell ⟨g, 1, none⟩ (.string s.seg)).setCell ⟨g, 2, none⟩ (.int .u64 s.addr)).setCell ⟨g, 3, none⟩ (.int .u64 s.size)).setCell ⟨g, 4, none⟩ (.int .u64 s.off)).setCell ⟨g, 5, none⟩ (.int .i64 s.kind)) g s := Lay.Box.put h s
theorem Sec.chg0 (w : World) (g : Nat) (s : Sec) : Chg [g] w ((((((w.setCell ⟨g, 0, none⟩ (.string s.name)).setCell ⟨g, 1, none⟩ (.string s.seg)).setCell ⟨g, 2, none⟩ (.int .u64 s.addr)).setCell ⟨g, 3, none⟩ (.int .u64 s.size)).setCell ⟨g, 4, none⟩ (.int .u64 s.off)).setCell ⟨g, 5, none⟩ (.int .i64 s.kind)) := Lay.setW_chg g s.cells w 0
theorem Sec.set_name {w : World} {g : Nat} {s : Sec} (h : secL.Box w g s) (x : ByteArray) : secL.Box (w.setCell ⟨g, 0, none⟩ (.string x)) g { s with name := x } := Lay.Box.set h 0 _ _ rfl
theorem Sec.set_seg {w : World} {g : Nat} {s : Sec} (h : secL.Box w g s) (x : ByteArray) : secL.Box (w.setCell ⟨g, 1, none⟩ (.string x)) g { s with seg := x } := Lay.Box.set h 1 _ _ rfl
theorem Sec.set_addr {w : World} {g : Nat} {s : Sec} (h : secL.Box w g s) (x : Int) : secL.Box (w.setCell ⟨g, 2, none⟩ (.int .u64 x)) g { s with addr := x } := Lay.Box.set h 2 _ _ rfl
theorem Sec.set_size {w : World} {g : Nat} {s : Sec} (h : secL.Box w g s) (x : Int) : secL.Box (w.setCell ⟨g, 3, none⟩ (.int .u64 x)) g { s with size := x } := Lay.Box.set h 3 _ _ rfl
theorem Sec.set_off {w : World} {g : Nat} {s : Sec} (h : secL.Box w g s) (x : Int) : secL.Box (w.setCell ⟨g, 4, none⟩ (.int .u64 x)) g { s with off := x } := Lay.Box.set h 4 _ _ rfl
theorem Sec.set_kind {w : World} {g : Nat} {s : Sec} (h : secL.Box w g s) (x : Int) : secL.Box (w.setCell ⟨g, 5, none⟩ (.int .i64 x)) g { s with kind := x } := Lay.Box.set h 5 _ _ rfl
theorem Sec.c_name {w : World} {b : Nat} {s : Sec} (h : secL.Box w b s) : w.cell? ⟨b, 0, none⟩ = some (.string s.name) := by have := h.in 0 (by decide); rw [Nat.zero_add] at this; exact this
theorem Sec.c_seg {w : World} {b : Nat} {s : Sec} (h : secL.Box w b s) : w.cell? ⟨b, 1, none⟩ = some (.string s.seg) := by have := h.in 1 (by decide); rw [Nat.zero_add] at this; exact this
theorem Sec.c_addr {w : World} {b : Nat} {s : Sec} (h : secL.Box w b s) : w.cell? ⟨b, 2, none⟩ = some (.int .u64 s.addr) := by have := h.in 2 (by decide); rw [Nat.zero_add] at this; exact this
theorem Sec.c_size {w : World} {b : Nat} {s : Sec} (h : secL.Box w b s) : w.cell? ⟨b, 3, none⟩ = some (.int .u64 s.size) := by have := h.in 3 (by decide); rw [Nat.zero_add] at this; exact this
theorem Sec.c_off {w : World} {b : Nat} {s : Sec} (h : secL.Box w b s) : w.cell? ⟨b, 4, none⟩ = some (.int .u64 s.off) := by have := h.in 4 (by decide); rw [Nat.zero_add] at this; exact this
theorem Sec.c_kind {w : World} {b : Nat} {s : Sec} (h : secL.Box w b s) : w.cell? ⟨b, 5, none⟩ = some (.int .i64 s.kind) := by have := h.in 5 (by decide); rw [Nat.zero_add] at this; exact this
theorem Sec.at0B {w : World} {b : Nat} {s : Sec} (h : secL.Box w b s) : w.cell? ⟨b, 0, none⟩ = some (.string s.name) ∧ w.cell? ⟨b, 1, none⟩ = some (.string s.seg) ∧ w.cell? ⟨b, 2, none⟩ = some (.int .u64 s.addr) ∧ w.cell? ⟨b, 3, none⟩ = some (.int .u64 s.size) ∧ w.cell? ⟨b, 4, none⟩ = some (.int .u64 s.off) ∧ w.cell? ⟨b, 5, none⟩ = some (.int .i64 s.kind) := Sec.at0 h.in
theorem Sec.ext' {s r : Sec} (h0 : s.name = r.name) (h1 : s.seg = r.seg) (h2 : s.addr = r.addr) (h3 : s.size = r.size) (h4 : s.off = r.off) (h5 : s.kind = r.kind) : s = r := by
  cases s; cases r; simp only at h0 h1 h2 h3 h4 h5; subst h0 h1 h2 h3 h4 h5; rfl
instance : DecidableEq Sec := fun s r => decidable_of_iff (s.name = r.name ∧ s.seg = r.seg ∧ s.addr = r.addr ∧ s.size = r.size ∧ s.off = r.off ∧ s.kind = r.kind) ⟨fun h => Sec.ext' h.1 h.2.1 h.2.2.1 h.2.2.2.1 h.2.2.2.2.1 h.2.2.2.2.2, fun h => by rw [h]; exact ⟨rfl, rfl, rfl, rfl, rfl, rfl⟩⟩
theorem Sec.eqv (s r : Sec) : decide (s = r) = (decide (s.name.toList = r.name.toList) && (decide (s.seg.toList = r.seg.toList) && (decide (s.addr = r.addr) && (decide (s.size = r.size) && (decide (s.off = r.off) && (decide (s.kind = r.kind))))))) := by
  have e : s = r ↔ (s.name = r.name ∧ s.seg = r.seg ∧ s.addr = r.addr ∧ s.size = r.size ∧ s.off = r.off ∧ s.kind = r.kind) := ⟨fun h => by rw [h]; exact ⟨rfl, rfl, rfl, rfl, rfl, rfl⟩, fun h => Sec.ext' h.1 h.2.1 h.2.2.1 h.2.2.2.1 h.2.2.2.2.1 h.2.2.2.2.2⟩
  have hname : (s.name.toList = r.name.toList) = (s.name = r.name) := by rw [Lib.toList_data, Lib.toList_data]; exact propext ⟨fun e => ByteArray.ext (Array.toList_inj.1 e), fun e => by rw [e]⟩
  have hseg : (s.seg.toList = r.seg.toList) = (s.seg = r.seg) := by rw [Lib.toList_data, Lib.toList_data]; exact propext ⟨fun e => ByteArray.ext (Array.toList_inj.1 e), fun e => by rw [e]⟩
  simp only [hname, hseg, ← Bool.decide_and]
  exact decide_eq_decide.2 e
set_option maxHeartbeats 2000000 in
theorem Sec.eql (s r : Sec) (W : World) : (binOp .eql 85 (.agg #[.string s.name, .string s.seg, .int .u64 s.addr, .int .u64 s.size, .int .u64 s.off, .int .i64 s.kind]) (.agg #[.string r.name, .string r.seg, .int .u64 r.addr, .int .u64 r.size, .int .u64 r.off, .int .i64 r.kind])).run Tryz.prog W = .ok (.bool (decide (s = r))) W := by
  rw [Sec.eqv]
  go_simp
  (repeat' split) <;> simp [*]
set_option maxHeartbeats 2000000 in
theorem Sec.neq (s r : Sec) (W : World) : (binOp .neq 85 (.agg #[.string s.name, .string s.seg, .int .u64 s.addr, .int .u64 s.size, .int .u64 s.off, .int .i64 s.kind]) (.agg #[.string r.name, .string r.seg, .int .u64 r.addr, .int .u64 r.size, .int .u64 r.off, .int .i64 r.kind])).run Tryz.prog W = .ok (.bool (!decide (s = r))) W := by
  rw [Sec.eqv]
  go_simp
  (repeat' split) <;> simp [*]
end Go.Proofs.YtgjlgamlmmjdpaaGreatDoor
/- load.section. -/
namespace Go.Proofs.YtgjlgamlmmjdpaaGreatDoor
open Go.RowKit
set_option maxRecDepth 100000

/-- A number of eight bytes that stands at a place. -/
def n8 (l : List UInt8) (p : Nat) : Nat := leNum ((l.drop p).take 8)
theorem n8_lt (l : List UInt8) (p : Nat) : n8 l p < 18446744073709551616 := by
  have h := leNum_lt ((l.drop p).take 8)
  have h2 : ((l.drop p).take 8).length ≤ 8 := by rw [List.length_take]; omega
  have h3 : 256 ^ ((l.drop p).take 8).length ≤ 256 ^ 8 := Nat.pow_le_pow_right (by decide) h2
  unfold n8
  omega
/-- A text of sixteen bytes that stands at a place. -/
def tx (l : List UInt8) (p : Nat) : ByteArray := ⟨(cutZ ((l.drop p).take 16)).toArray⟩
/-- A cursor's state at a place. -/
abbrev cAt (l : List UInt8) (p : Nat) : CS := ⟨l, p, false, false⟩
theorem tk (l : List UInt8) (p m q : Nat) (h : q ≤ l.length) (hq : q = p + m) : takeS (cAt l p) m = cAt l q ∧ takeL (cAt l p) m = (l.drop p).take m := by
  subst hq
  have hc : canTake (cAt l p) m = true := canTake_of rfl (by omega) (by dsimp only; omega)
  constructor
  · unfold takeS; rw [hc]; rfl
  · unfold takeL; rw [hc]; rfl
theorem num8 (l : List UInt8) (p q : Nat) (h : q ≤ l.length) (hq : q = p + 8) : numberV (cAt l p) 8 = n8 l p ∧ numberS (cAt l p) 8 = cAt l q := by
  subst hq
  have hc : canTake (cAt l p) 8 = true := canTake_of rfl (by decide) (by dsimp only; omega)
  constructor
  · unfold numberV n8
    rw [show okSize 8 = true from rfl, if_pos rfl]
    unfold takeL numOf
    rw [hc, if_pos rfl]
    rfl
  · unfold numberS
    rw [show okSize 8 = true from rfl, if_pos rfl]
    unfold takeS
    rw [hc]
    rfl
theorem num4q (l : List UInt8) (p q : Nat) (h : q ≤ l.length) (hq : q = p + 4) : numberV (cAt l p) 4 = n4 l p ∧ numberS (cAt l p) 4 = cAt l q := by
  subst hq
  exact num4 l p h
/-- A cursor at a place, and what was changed. -/
structure CAt (w : World) (b : Nat) (l : List UInt8) (p : Nat) : Prop where
  cur : CurB w b (cAt l p)
theorem num4_at (b : Nat) (l : List UInt8) (p q : Nat) (w : World) (h : CurB w b (cAt l p)) (hl : q ≤ l.length) (hq : q = p + 4) :
    Calls Tryz.prog 44 #[.pointer (some ⟨b, 0, none⟩), .int .i64 4] w fun e w' => e = .returned (.int .u64 (n4 l p)) ∧ CurB w' b (cAt l q) ∧ Chg [b] w w' := by
  have := Number_cur b (cAt l p) 4 w h
  rw [(num4q l p q hl hq).1, (num4q l p q hl hq).2] at this
  exact this
theorem num8_at (b : Nat) (l : List UInt8) (p q : Nat) (w : World) (h : CurB w b (cAt l p)) (hl : q ≤ l.length) (hq : q = p + 8) :
    Calls Tryz.prog 44 #[.pointer (some ⟨b, 0, none⟩), .int .i64 8] w fun e w' => e = .returned (.int .u64 (n8 l p)) ∧ CurB w' b (cAt l q) ∧ Chg [b] w w' := by
  have := Number_cur b (cAt l p) 8 w h
  rw [(num8 l p q hl hq).1, (num8 l p q hl hq).2] at this
  exact this
theorem fld_at (b : Nat) (l : List UInt8) (p q : Nat) (w : World) (h : CurB w b (cAt l p)) (hl : q ≤ l.length) (hq : q = p + 16) :
    Calls Tryz.prog 90 #[.pointer (some ⟨b, 0, none⟩), .int .i64 16] w fun e w' => e = .returned (.string (tx l p)) ∧ CurB w' b (cAt l q) ∧ Chg [b] w w' := by
  have := Field_cur b (cAt l p) 16 w h
  rw [show (16 : Int) = ((16 : Nat) : Int) from rfl, (tk l p 16 q hl hq).1, (tk l p 16 q hl hq).2] at this
  exact this
theorem bytes_at (b : Nat) (l : List UInt8) (p m q : Nat) (w : World) (h : CurB w b (cAt l p)) (hl : q ≤ l.length) (hq : q = p + m) :
    Calls Tryz.prog 76 #[.pointer (some ⟨b, 0, none⟩), .int .i64 m] w fun e w' => (∃ v, e = .returned v) ∧ CurB w' b (cAt l q) ∧ Chg [b] w w' := by
  have := Bytes_cur b (cAt l p) m w h
  rw [(tk l p m q hl hq).1] at this
  exact this.mono fun e w' ⟨v, h1, h2, _, h3⟩ => ⟨⟨v, h1⟩, h2, h3⟩
/-- The section that stands at a place. -/
def secAt (l : List UInt8) (p : Nat) : Sec := ⟨tx l p, tx l (p + 16), n8 l (p + 32), n8 l (p + 40), n4 l (p + 48), ((n4 l (p + 64) % 256 : Nat) : Int)⟩
theorem Tryz.tSec : Lay.Ty secL Tryz.prog 85 := Lay.Ty.mk' (by kernel_rfl) (by kernel_rfl)
theorem and255 (a : Nat) (ha : a < 4294967296) : wrap64 (bits .and .u64 (a : Int) 255) = ((a % 256 : Nat) : Int) := by
  have h : bits .and .u64 (a : Int) 255 = ((a % 256 : Nat) : Int) := by
    have := Go.bits_mask .u64 64 (by decide) (fun n h1 h2 => by rw [IntKind.wrap_u64]; omega) 8 (by decide) (a : Int) (by omega) (by omega)
    rw [Int.natCast_emod]
    simpa using this
  rw [h]
  unfold wrap64
  omega
theorem Lay.with_calls {P : Program} {f : Nat} {args : Array Value} {R : Ending → World → Prop} {W : World} (S : World → Prop) (hS : S W) (k : ∀ W', S W' → Calls P f args W' R) : Calls P f args W R := k W hS
set_option maxHeartbeats 4000000 in
theorem section_any (b : Nat) (l : List UInt8) (p : Nat) (w : World) (h : CurB w b (cAt l p)) (hl : p + 80 ≤ l.length) :
    Calls Tryz.prog 91 #[.pointer (some ⟨b, 0, none⟩)] w fun e w' => e = .returned (secL.val (secAt l p)) ∧ CurB w' b (cAt l (p + 80)) ∧ Chg [b] w w' := by
  have hbw := h.lt
  have H := Lib.hid h
  have Hl := Lib.hid hl
  clear h hl
  go_enter Tryz.func91, Tryz.ntmps91
  go_wp2_with ((with_reducible refine Lay.alL Tryz.tSec ?_); intro Wa ba eba cba xba; replace eba := Lib.hid eba; replace cba := Lib.hid cba; replace xba := Lib.hid xba; refine Hid.out ?_)
  refine Lib.hid ?_
  have CU0 := Lib.hid (H.out.frame cba.out)
  have C0 : Hid (Chg [b] Wa Wa) := Lib.hid (Chg.refl _ _)
  have hba : ba ≠ b := by rw [eba.out]; omega
  have hbl : b < Wa.heap.size := CU0.out.lt
  have Hba := Lib.hid hba
  have Hbl := Lib.hid hbl
  clear hba hbl
  go_wp2_with fail
  refine (fld_at b l (p) (p + 16) _ CU0.out (by have := Hl.out; omega) (by omega)).mono ?_
  rintro e W1 ⟨rfl, hcu, hch⟩
  have C1 := Lib.hid (C0.out.same hch)
  have CU1 := Lib.hid hcu
  clear hcu
  clear hch
  go_wp2_with fail
  refine (fld_at b l (p + 16) (p + 32) _ CU1.out (by have := Hl.out; omega) (by omega)).mono ?_
  rintro e W2 ⟨rfl, hcu, hch⟩
  have C2 := Lib.hid (C1.out.same hch)
  have CU2 := Lib.hid hcu
  clear hcu
  clear hch
  go_wp2_with fail
  refine (num8_at b l (p + 32) (p + 40) _ CU2.out (by have := Hl.out; omega) (by omega)).mono ?_
  rintro e W3 ⟨rfl, hcu, hch⟩
  have C3 := Lib.hid (C2.out.same hch)
  have CU3 := Lib.hid hcu
  clear hcu
  clear hch
  go_wp2_with fail
  refine (num8_at b l (p + 40) (p + 48) _ CU3.out (by have := Hl.out; omega) (by omega)).mono ?_
  rintro e W4 ⟨rfl, hcu, hch⟩
  have C4 := Lib.hid (C3.out.same hch)
  have CU4 := Lib.hid hcu
  clear hcu
  clear hch
  go_wp2_with fail
  refine (num4_at b l (p + 48) (p + 52) _ CU4.out (by have := Hl.out; omega) (by omega)).mono ?_
  rintro e W5 ⟨rfl, hcu, hch⟩
  have C5 := Lib.hid (C4.out.same hch)
  have CU5 := Lib.hid hcu
  clear hcu
  clear hch
  go_wp2_with ((with_reducible refine Lay.alL Tryz.tSec ?_); intro Wb bb ebb cbb xbb; replace ebb := Lib.hid ebb; replace cbb := Lib.hid cbb; replace xbb := Lib.hid xbb; refine Hid.out ?_)
  refine Lib.hid ?_
  go_wp2_with ((with_reducible refine Lay.stL Tryz.tSec ({ secAt l p with kind := 0 } : Sec) (xbb.out) ?_ ?_ ?_); exact rfl; exact rfl; intro V6 cV6 xV6; replace cV6 := Lib.hid cV6; replace xV6 := Lib.hid xV6; refine Hid.out ?_)
  refine Lib.hid ?_
  have hs5 := C5.out.size
  have hbb : bb ≠ b ∧ Wa.heap.size ≤ bb ∧ bb ≠ ba := by rw [ebb.out]; have h1 := Hbl.out; have h2 := xba.out.lt; omega
  have hbb2 : b < bb := by have := Hbl.out; omega
  have D6 : Hid (Chg [b] Wa V6) := Lib.hid ((C5.out.then cbb.out).new cV6.out hbb.2.1)
  have C6 : Hid (Chg [b] V6 V6) := Lib.hid (Chg.refl _ _)
  have CU6 := Lib.hid ((CU5.out.frame cbb.out).far cV6.out (by simp; exact hbb2))
  have Hbb := Lib.hid hbb
  have Hbb2 := Lib.hid hbb2
  clear hbb hbb2
  clear hs5
  go_wp2_with fail
  refine (bytes_at b l (p + 52) 12 (p + 64) _ CU6.out (by have := Hl.out; omega) (by omega)).mono ?_
  rintro e W7 ⟨⟨v7, rfl⟩, hcu, hch⟩
  have C7 := Lib.hid (C6.out.same hch)
  have CU7 := Lib.hid hcu
  clear hcu
  clear hch
  go_wp2_with fail
  refine (num4_at b l (p + 64) (p + 68) _ CU7.out (by have := Hl.out; omega) (by omega)).mono ?_
  rintro e W8 ⟨rfl, hcu, hch⟩
  have C8 := Lib.hid (C7.out.same hch)
  have CU8 := Lib.hid hcu
  clear hcu
  clear hch
  have X8 := Lib.hid (xV6.out.frameS C8.out (by simp; exact Hbb.out.1))
  have z0 := X8.out.frozen 5
  have z1 := Sec.c_kind X8.out
  have z2 := and255 (n4 l (p + 64)) (n4_lt _ _)
  go_wp2_with fail
  rw [z2]
  refine Lay.with_calls (fun W => secL.Box W bb (secAt l p) ∧ CurB W b (cAt l (p + 68)) ∧ Chg [bb] W8 W) ⟨Sec.set_kind X8.out _, CU8.out.far (S := [bb]) ((Chg.refl _ _).setCell _ _ (.inl (by simp))) (by simp; exact Hbb2.out), (Chg.refl _ _).setCell _ _ (.inl (by simp))⟩ (fun W9 hW => ?_)
  have X9 := Lib.hid hW.1
  have CU9 := Lib.hid hW.2.1
  have C9 : Hid (Chg [b] W9 W9) := Lib.hid (Chg.refl _ _)
  have D9 : Hid (Chg [b] Wa W9) := Lib.hid ((D6.out.same C8.out).new hW.2.2 Hbb.out.2.1)
  clear hW z0 z1 z2
  refine (bytes_at b l (p + 68) 12 (p + 80) _ CU9.out (by have := Hl.out; omega) (by omega)).mono ?_
  rintro e WT ⟨⟨vT, rfl⟩, hcu, hch⟩
  have XT := Lib.hid (X9.out.frameS hch (by simp; exact Hbb.out.1))
  have DT := Lib.hid (D9.out.same hch)
  have XR := Lib.hid (xba.out.frameS DT.out (by simp; exact Hba.out))
  have CUT := Lib.hid hcu
  clear hcu
  clear hch
  go_wp2_with ((with_reducible refine Lay.ldL Tryz.tSec (secAt l p) (XT.out.in) ?_ ?_); exact rfl; refine Hid.out ?_)
  refine Lib.hid ?_
  go_wp2_with ((with_reducible refine Lay.stL Tryz.tSec (secAt l p) (XR.out) ?_ ?_ ?_); exact rfl; exact rfl; intro WU cWU xWU; replace cWU := Lib.hid cWU; replace xWU := Lib.hid xWU; refine Hid.out ?_)
  refine Lib.hid ?_
  go_wp2
  refine Lay.ret1 Tryz.tSec rfl xWU.out rfl rfl ?_
  exact ⟨rfl, CUT.out.far cWU.out (by simp; rw [eba.out]; exact H.out.lt), ((cba.out.add.same DT.out).new cWU.out (by rw [eba.out]; exact Nat.le_refl _))⟩
end Go.Proofs.YtgjlgamlmmjdpaaGreatDoor
