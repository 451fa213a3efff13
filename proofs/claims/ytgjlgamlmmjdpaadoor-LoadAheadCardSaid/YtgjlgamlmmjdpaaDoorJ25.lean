/- Lemmas, laid together: part 25 of 38. Conditions: none but each lemma's own. -/
import Derived.Test.YtgjlgamlmmjdpaaDoorJ1
import Derived.Maps.AppendAt
import Derived.Test.YtgjlgamlmmjdpaaDoorJ12
import Derived.Handy
/- append(b, make([]byte, m)...), as the program has it: so many noughts behind a row of bytes of the call's own. No program in sight. -/
namespace Go.Proofs.YtgjlgamlmmjdpaaDoor
open Go.RowKit

section
variable {P : Program}
theorem zeroCells_one (z : Value) (m : Nat) : Builtin.zeroCells #[z] m = (List.replicate m z).toArray := by
  unfold Builtin.zeroCells
  apply Array.ext'
  simp only [Array.toList_map, Array.toList_range, List.size_toArray, List.length_cons, List.length_nil, Nat.zero_add, Nat.mul_one, Nat.mod_one]
  apply List.ext_getElem?
  intro j
  by_cases hj : j < m <;> simp [hj]
theorem Addr_add' (b j : Nat) : (⟨b, 0, none⟩ : Addr).add j = ⟨b, j, none⟩ := by unfold Addr.add; split <;> simp_all
theorem run_append_zeros (w : World) (base : Nat) (t tx ty e : TypeId) (i : TypeInfo) (K : IntKind) (ht : P.underlying t = some (.slice e)) (hx : P.underlying tx = some (.int K)) (hi : P.info? e = some i) (hz : i.zero = some (.int .u8 0)) (hs : i.size = 1) (hby : i.bytes = 1)
    (v : Value) (n : Nat) (xs : List Value) (hown : w.ownsRow base e 1 v n xs) (m : Nat) (hle : n + m ≤ 140737488355328) (hbase : base ≤ w.heap.size) :
    ∃ v' w', (Builtin.append_ #[t, tx] ty #[v, .int .i64 m]).run P w = .ok v' w' ∧ w'.ownsRow base e 1 v' (n + m) (xs ++ List.replicate m (.int .u8 0)) ∧ w.grownBy w' v.ownBlock ∧
      (v'.ownBlock = v.ownBlock ∨ v'.ownBlock = some w.heap.size) := by
  have hwr : IntKind.i64.wrap (m : Int) = m := by rw [IntKind.wrap_i64]; omega
  have h0 : ¬ ((m : Int) < 0) := by omega
  have h48 : ¬ (281474976710656 < (m : Int)) := by omega
  have ha : ∀ w : World, (asInt (.int .i64 (m : Int))).run P w = .ok (m : Int) w := fun _ => rfl
  have hone : ∀ u ∈ List.replicate m (Value.int .u8 0), u.oneCell' = true := by
    intro u hu; rw [(List.mem_replicate.1 hu).2]; rfl
  rcases hown.2 with ⟨rfl, rfl⟩ | ⟨g, cap, cur, rfl, hbg, hg, hnc, hcm, hcs, htake⟩
  · have hxs : xs = [] := List.eq_nil_of_length_eq_zero (by simpa using hown.1)
    subst hxs
    rcases Nat.eq_zero_or_pos m with rfl | hm
    · refine ⟨.slice none 0 0, w, ?_, World.ownsRow_nil w base e 1, ⟨rfl, rfl, rfl, Nat.le_refl _, fun _ _ _ => rfl⟩, .inl rfl⟩
      have ha := ha
      have hw0 : IntKind.i64.wrap 0 = 0 := by decide
      simp at ha
      simp [Builtin.append_, run_underlying ht, run_underlying hx, sizeOf, typeInfo, hi, ha, hw0]
    · have hne : ¬ m = 0 := by omega
      have h63 : ¬ (9223372036854775807 < (m : Int)) := by omega
      have hnx : ¬ (281474976710656 < Builtin.nextslicecap m 0) := by rw [nextslicecap_zero hm]; omega
      simp [Builtin.append_, run_underlying ht, run_underlying hx, sizeOf, typeInfo, zeroValue, hi, hz, hs, hby, ha, hwr, h48, hne, h63, hnx, Question.forced, run_firstCells_none, newRow]
      rw [if_neg h0]
      have hge := grownCap_ge w m 0 e
      have hcm : grownCap w m 0 e ≤ maxLen := grownCap_le_maxLen w m 0 e (by unfold maxLen; omega)
      rw [show (Value.int .u8 0).cells = #[Value.int .u8 0] from rfl, zeroCells_one, zeroCells_one]
      refine ⟨_, _, rfl, ⟨by simp, .inr ⟨w.heap.size, _, _, rfl, hbase, heap_alloc_new w.drew _, hge, hcm, ?_, ?_⟩⟩, ⟨rfl, rfl, rfl, by simp, fun k hk _ => heap_alloc_lt (w := w.drew) hk _⟩, .inr rfl⟩
      · unfold grownCap at hge
        simp
        omega
      · simp
  · by_cases hroom : n + m ≤ cap
    · simp [Builtin.append_, run_underlying ht, run_underlying hx, sizeOf, typeInfo, zeroValue, hi, hz, hs, hby, ha, hwr, h48, hroom]
      rw [if_neg h0]
      have hst := run_storeCells_at P g n e (List.replicate m (Value.int .u8 0)) 0 cur w hg (by simp; omega) hone
      simp only [Nat.add_zero] at hst
      have e1 : (⟨g, 0, none⟩ : Addr).add n = ⟨g, n, none⟩ := Addr_add' g n
      have hst2 : (if m = 0 then (storeCells ((⟨g, 0, none⟩ : Addr).add n) []).run P w else (storeCells ((⟨g, 0, none⟩ : Addr).add n) (Builtin.zeroCells (Value.int .u8 0).cells m).toList).run P w) = .ok () (w.setRow g (cur.toList.take n ++ List.replicate m (Value.int .u8 0) ++ cur.toList.drop (n + (List.replicate m (Value.int .u8 0)).length)).toArray) := by
        rw [e1, ← hst]
        split
        · next h => subst h; rfl
        · rw [show (Value.int .u8 0).cells = #[Value.int .u8 0] from rfl, zeroCells_one]
      have hrun : (if m = 0 then ((storeCells ((⟨g, 0, none⟩ : Addr).add n) []).run P w).andThen fun _ w' => Result.ok (Value.slice (some ⟨g, 0, none⟩) (n + m) cap) w' else ((storeCells ((⟨g, 0, none⟩ : Addr).add n) (Builtin.zeroCells (Value.int .u8 0).cells m).toList).run P w).andThen fun _ w' => Result.ok (Value.slice (some ⟨g, 0, none⟩) (n + m) cap) w') =
          .ok (Value.slice (some ⟨g, 0, none⟩) (n + m) cap) (w.setRow g (cur.toList.take n ++ List.replicate m (Value.int .u8 0) ++ cur.toList.drop (n + (List.replicate m (Value.int .u8 0)).length)).toArray) := by
        split at hst2 <;> simp_all
      refine ⟨_, _, hrun, ⟨by simp [hown.1], .inr ⟨g, cap, _, rfl, hbg, setRow_heap w g cur _ e _ hg, hroom, hcm, ?_, ?_⟩⟩, ⟨rfl, rfl, rfl, by simp, fun k _ hk => setRow_other w g k _ (fun e => hk (by simp [Value.ownBlock, e]))⟩, .inl rfl⟩
      · simp; omega
      · rw [Nat.mul_one] at htake ⊢
        rw [htake]
        have hl : xs.length = n := by rw [hown.1, Nat.mul_one]
        simp [List.take_append, hl]
        exact List.take_of_length_le (by omega)
    · have h63 : ¬ (9223372036854775807 < (n : Int) + (m : Int)) := by omega
      have hnx : ¬ (281474976710656 < Builtin.nextslicecap (n + m) cap) := by have := growslice_fits (old := cap) (need := n + m) (bytes := 1) (by omega) (by omega); omega
      simp [Builtin.append_, run_underlying ht, run_underlying hx, sizeOf, typeInfo, zeroValue, hi, hz, hs, hby, ha, hwr, h48, hroom, h63, hnx, Question.forced, newRow]
      rw [if_neg h0]
      have hne : ¬ m = 0 := by omega
      have holds : ∀ j u, xs[j]? = some u → w.cell? ((⟨g, 0, none⟩ : Addr).add j) = some u := hown.cells (g := g) rfl
      have hf := run_firstCells_some (P := P) w.drew 1 n ⟨g, 0, none⟩ n cap xs hown.1 (by simpa using holds)
      have hge := grownCap_ge w (n + m) cap e
      have hcm2 : grownCap w (n + m) cap e ≤ maxLen := grownCap_le_maxLen w (n + m) cap e (by unfold maxLen; omega)
      rw [hf]
      simp only [Result.andThen_ok, if_neg hne]
      rw [show (Value.int .u8 0).cells = #[Value.int .u8 0] from rfl, zeroCells_one, zeroCells_one]
      have hl : xs.length = n := by rw [hown.1, Nat.mul_one]
      refine ⟨_, _, rfl, ⟨by simp [hl], .inr ⟨w.heap.size, _, _, rfl, hbase, heap_alloc_new w.drew _, hge, hcm2, ?_, ?_⟩⟩, ⟨rfl, rfl, rfl, by simp, fun k hk _ => heap_alloc_lt (w := w.drew) hk _⟩, .inr rfl⟩
      · unfold grownCap at hge
        simp [hl]
        omega
      · simp [List.take_append, hl]
        exact List.take_of_length_le (by omega)
end
end Go.Proofs.YtgjlgamlmmjdpaaDoor
/- command.put: four bytes, the lowest first; append of noughts at this program. -/
namespace Go.Proofs.YtgjlgamlmmjdpaaDoor
open Go.RowKit
set_option maxRecDepth 100000

/-- A buffer of the call's own has grown by some bytes. -/
structure Grew (w : World) (base : Nat) (v : Value) (l : List UInt8) (w' : World) (v' : Value) (new : List UInt8) : Prop where
  buf : Buf w' base v' (l ++ new)
  chg : Chg v.ownBlock.toList w w'
  own : v'.ownBlock = v.ownBlock ∨ ∃ k, v'.ownBlock = some k ∧ w.heap.size ≤ k
theorem Grew.pure0 {w w0 w' : World} {base : Nat} {v v' : Value} {l new : List UInt8} (h : Grew w base v l w' v' new) (hb : Buf w base v l) (k : Chg [] w0 w) (hbase : w0.heap.size ≤ base) : Chg [] w0 w' :=
  k.trans h.chg (fun i hm hi => by have := (World.ownsRow.lt hb i (by simpa using hm)).1; omega)
theorem Grew.trans {w w1 w2 : World} {base : Nat} {v v1 v2 : Value} {l n1 n2 : List UInt8} (h : Grew w base v l w1 v1 n1) (k : Grew w1 base v1 (l ++ n1) w2 v2 n2) : Grew w base v l w2 v2 (n1 ++ n2) := by
  refine ⟨by rw [← List.append_assoc]; exact k.buf, h.chg.trans k.chg (fun i hm hi => ?_), ?_⟩
  · rcases h.own with e | ⟨j, e, hj⟩
    · rw [e] at hm; exact hm
    · rw [e] at hm; simp at hm; omega
  · rcases k.own with e | ⟨j, e, hj⟩
    · rcases h.own with e' | ⟨j, e', hj⟩
      · exact .inl (e.trans e')
      · exact .inr ⟨j, e.trans e', hj⟩
    · exact .inr ⟨j, e, Nat.le_trans h.chg.size hj⟩
theorem Grew.mk' {w w0 w' : World} {base : Nat} {v v' : Value} {l new : List UInt8} (hg : Chg [] w w0) (hb : Buf w' base v' (l ++ new)) (hc : w0.grownBy w' v.ownBlock) (ho : v'.ownBlock = v.ownBlock ∨ v'.ownBlock = some w0.heap.size) : Grew w base v l w' v' new :=
  ⟨hb, hg.add.same (Chg.of_grown hc), ho.imp id fun h => ⟨_, h, hg.size⟩⟩

def le4 (n : Nat) : List UInt8 := [UInt8.ofNat (n % 256), UInt8.ofNat (n / 256 % 256), UInt8.ofNat (n / 65536 % 256), UInt8.ofNat (n / 16777216)]
theorem byteV_nat (x : Nat) (h : x < 256) : byteV (UInt8.ofNat x) = .int .u8 x := by
  have e : (UInt8.ofNat x).toNat = x := by simp; omega
  simp [byteV, e]
theorem bytesV_le4 (n : Nat) (hn : n < 4294967296) : bytesV (le4 n) = [.int .u8 ((n : Int) % 256), .int .u8 ((n : Int) / 256 % 256), .int .u8 ((n : Int) / 65536 % 256), .int .u8 ((n : Int) / 16777216)] := by
  unfold le4 bytesV
  simp only [List.map_cons, List.map_nil]
  rw [byteV_nat _ (by omega), byteV_nat _ (by omega), byteV_nat _ (by omega), byteV_nat _ (by omega)]
  simp
theorem bytesV_zeros (m : Nat) : bytesV (List.replicate m 0) = List.replicate m (.int .u8 0) := by simp [bytesV, byteV]
theorem app_zeros {w : World} {ops : Array Oper} {rest : List Oper} {o : Oper} {a : Act} {Q : Exit → Act → World → Prop} (hgd : o.guard = none) (s x : Operand)
    (ho : o.op = .call { callee := .builtin .append, args := #[s, x], argTypes := #[22, 3] })
    (base : Nat) (v : Value) (l : List UInt8) (hs : a.eval s = v) (hown : Buf w base v l) (m : Nat) (hx : a.eval x = .int .i64 m) (hle : l.length + m ≤ 140737488355328) (hbase : base ≤ w.heap.size)
    (h : ∀ v' w', Buf w' base v' (l ++ List.replicate m 0) → w.grownBy w' v.ownBlock → (v'.ownBlock = v.ownBlock ∨ v'.ownBlock = some w.heap.size) → wpList Tryd.prog ops Q rest (a.put o.dst v') w') :
    wpList Tryd.prog ops Q (o :: rest) a w := by
  obtain ⟨i0, hi, hz0, hz1, hz2⟩ := info_parts Tryd.infoU8
  obtain ⟨v', w', hrun, h1, h2, h3⟩ := run_append_zeros (P := Tryd.prog) w base 22 3 o.type 5 i0 .i64 Tryd.underlying22 Tryd.underlying3 hi hz0 hz1 hz2 v l.length (bytesV l) hown m hle hbase
  refine wpList_plain hgd fun K hK => ?_
  unfold Oper.wp
  simp [execOp, ho, resolve, invoke, builtin, hs, hx, hrun, Result.andThen]
  refine hK _ _ (h v' w' ?_ h2 h3)
  unfold Buf
  rw [bytesV_append, bytesV_zeros, List.length_append, List.length_replicate]
  exact h1

/-- append(b, x...), b a buffer of the call's own. -/
theorem app_buf {w : World} {ops : Array Oper} {rest : List Oper} {o : Oper} {a : Act} {Q : Exit → Act → World → Prop} (hgd : o.guard = none) (s x : Operand)
    (ho : o.op = .call { callee := .builtin .append, args := #[s, x], argTypes := #[22, 22] })
    (base : Nat) (v : Value) (l : List UInt8) (hs : a.eval s = v) (hown : Buf w base v l) (xv : Value) (hx : a.eval x = xv) (new : List UInt8) (hrd : Rd w xv (bytesV new)) (hle : l.length + new.length ≤ 140737488355328) (hbase : base ≤ w.heap.size)
    (h : ∀ v' w', Buf w' base v' (l ++ new) → w.grownBy w' v.ownBlock → (v'.ownBlock = v.ownBlock ∨ v'.ownBlock = some w.heap.size) → wpList Tryd.prog ops Q rest (a.put o.dst v') w') :
    wpList Tryd.prog ops Q (o :: rest) a w :=
  app_bytes_at hgd s x ho base v l.length (bytesV l) hs hown xv hx new hrd hle hbase (fun v' w' h1 h2 h3 => h v' w' (Buf.app h1) h2 h3)
end Go.Proofs.YtgjlgamlmmjdpaaDoor
/- command.One and command.kind, walked. -/
namespace Go.Proofs.YtgjlgamlmmjdpaaDoor
open Go.RowKit
set_option maxRecDepth 100000

def oneN (k : Nat) : Nat := (8 + k + 7) / 8 * 8
def oneL (cmd : Nat) (says : List UInt8) : List UInt8 := (le4 cmd ++ le4 (oneN says.length)) ++ says ++ List.replicate (oneN says.length - 8 - says.length) 0
theorem oneL_len (cmd : Nat) (says : List UInt8) : (oneL cmd says).length = oneN says.length := by
  unfold oneL oneN le4; simp; omega

theorem Buf.form {w : World} {base : Nat} {v : Value} {l : List UInt8} (h : Buf w base v l) : ∃ a cap, v = .slice a l.length cap := by
  obtain ⟨a, n, cap, rfl, hn, _⟩ := h.rd
  rw [bytesV_length] at hn
  subst hn
  exact ⟨a, cap, rfl⟩
theorem Buf.mono {w : World} {base base' : Nat} {v : Value} {l : List UInt8} (h : Buf w base v l) (hb : base' ≤ base) : Buf w base' v l := owned_base h hb


/-- What command.kind says of a subtype and a kind: nil, or an errno. -/
def kindB (sub kind : Int) : Bool := (sub = 0 ∨ sub = 2) ∧ (kind = 2 ∨ kind = 6)
theorem kind_ok (sub kind : Int) (fl : Value) (w : World) (h : kindB sub kind = true) :
    Calls Tryd.prog 47 #[.agg #[.int .i64 sub, .int .i64 kind, fl]] w fun e w' => e = .returned .nilIface ∧ Chg [] w w' := by
  have h' : (sub = 0 ∨ sub = 2) ∧ (kind = 2 ∨ kind = 6) := by simpa [kindB] using h
  clear h
  obtain ⟨rfl | rfl, rfl | rfl⟩ := h'
  all_goals
    go_enter Tryd.func47, Tryd.ntmps47
    go_wp2
    go_ret
    exact ⟨rfl, (Chg.refl _ _).alloc _⟩
theorem kind_no (sub kind : Int) (fl : Value) (w : World) (h : kindB sub kind = false) :
    Calls Tryd.prog 47 #[.agg #[.int .i64 sub, .int .i64 kind, fl]] w fun e w' => e = .returned (.iface 38 (.int .i64 (if sub = 0 ∨ sub = 2 then 7 else 6))) ∧ Chg [] w w' := by
  by_cases hs : sub = 0 ∨ sub = 2
  · have hk : ¬ (kind = 2 ∨ kind = 6) := fun hk => by simp [kindB, hs, hk] at h
    rw [if_pos hs]
    have k1 : (kind != 2) = true := by rw [bne_iff_ne]; omega
    have k2 : (kind != 6) = true := by rw [bne_iff_ne]; omega
    clear h hk
    rcases hs with rfl | rfl
    all_goals
      go_enter Tryd.func47, Tryd.ntmps47
      go_wp2
      go_ret
      exact ⟨rfl, (Chg.refl _ _).alloc _⟩
  · rw [if_neg hs]
    have k1 : (sub != 0) = true := by rw [bne_iff_ne]; omega
    have k2 : (sub != 2) = true := by rw [bne_iff_ne]; omega
    clear h hs
    go_enter Tryd.func47, Tryd.ntmps47
    go_wp2
    go_ret
    exact ⟨rfl, (Chg.refl _ _).alloc _⟩
end Go.Proofs.YtgjlgamlmmjdpaaDoor
/- command.May, walked. -/
namespace Go.Proofs.YtgjlgamlmmjdpaaDoor
open Go.RowKit
set_option maxRecDepth 100000

theorem takeL4 (l : List UInt8) (p : Nat) (h : p + 4 ≤ l.length) : numberV ⟨l, p, false, false⟩ 4 = leNum ((l.drop p).take 4) ∧ numberS ⟨l, p, false, false⟩ 4 = ⟨l, p + 4, false, false⟩ := by
  have hc : canTake ⟨l, p, false, false⟩ 4 = true := canTake_of rfl (by omega) (by show (4 : Int) ≤ (l.length : Int) - p; omega)
  constructor
  · unfold numberV takeL; rw [hc]; rfl
  · unfold numberS takeS; rw [hc]; rfl
theorem take4_no (l : List UInt8) (p : Nat) (h : l.length < p + 4) : numberV ⟨l, p, false, false⟩ 4 = 0 ∧ numberS ⟨l, p, false, false⟩ 4 = ⟨l, p, false, true⟩ := by
  have hc : canTake ⟨l, p, false, false⟩ 4 = false := by
    simp [canTake]; omega
  constructor
  · unfold numberV takeL; rw [hc]; rfl
  · unfold numberS takeS; rw [hc]; rfl
theorem take4_failed (l : List UInt8) (p : Nat) : numberV ⟨l, p, false, true⟩ 4 = 0 ∧ numberS ⟨l, p, false, true⟩ 4 = ⟨l, p, false, true⟩ := by
  have hc : canTake ⟨l, p, false, true⟩ 4 = false := rfl
  constructor
  · unfold numberV takeL; rw [hc]; rfl
  · unfold numberS takeS; rw [hc]; rfl
theorem leNum4_lt (l : List UInt8) (p : Nat) : leNum ((l.drop p).take 4) < 4294967296 := by
  have h := leNum_lt ((l.drop p).take 4)
  have h2 : ((l.drop p).take 4).length ≤ 4 := List.length_take_le _ _
  exact Nat.lt_of_lt_of_le h (Nat.pow_le_pow_right (by decide) h2)

def mayB (cmd : Nat) (l : List UInt8) : Bool := decide (8 ≤ l.length) && decide (leNum (l.take 4) = cmd) && decide (leNum ((l.drop 4).take 4) = l.length) && decide (l.length % 8 = 0)
theorem mayB_eq (cmd : Nat) (l : List UInt8) : mayB cmd l = true ↔ 8 ≤ l.length ∧ leNum (l.take 4) = cmd ∧ leNum ((l.drop 4).take 4) = l.length ∧ l.length % 8 = 0 := by
  simp [mayB, and_assoc]
theorem mayB_no {cmd : Nat} {l : List UInt8} (h : ¬ (8 ≤ l.length ∧ leNum (l.take 4) = cmd ∧ leNum ((l.drop 4).take 4) = l.length ∧ l.length % 8 = 0)) : mayB cmd l = false := by
  cases hb : mayB cmd l with
  | false => rfl
  | true => exact absurd ((mayB_eq cmd l).1 hb) h

end Go.Proofs.YtgjlgamlmmjdpaaDoor
/- command.Make, walked. -/
namespace Go.Proofs.YtgjlgamlmmjdpaaDoor
open Go.RowKit
set_option maxRecDepth 100000

/-- A command's number, its bytes. -/
abbrev Cmd := Nat × List UInt8
/-- The slice value v of commands reads as cs. -/
def CmdRd (w : World) (v : Value) (cs : List Cmd) : Prop :=
  ∃ a n cap, v = .slice a n cap ∧ n = cs.length ∧ n ≤ cap ∧ cap ≤ maxLen ∧
    (cs ≠ [] → ∃ b off, a = some ⟨b, off, none⟩ ∧ b < w.heap.size ∧ ∀ j, j < cs.length → w.cell? ⟨b, off + j * 2, none⟩ = some (.int .u32 (cs.getD j (0, [])).1) ∧
      ∃ a' cap', w.cell? ⟨b, off + j * 2 + 1, none⟩ = some (.slice a' (cs.getD j (0, [])).2.length cap') ∧ Rd w (.slice a' (cs.getD j (0, [])).2.length cap') (bytesV (cs.getD j (0, [])).2))
theorem CmdRd.frame {w w' : World} {v : Value} {cs : List Cmd} (h : CmdRd w v cs) (k : Chg [] w w') : CmdRd w' v cs := by
  obtain ⟨a, n, cap, rfl, hn, hc, hm, hx⟩ := h
  refine ⟨a, n, cap, rfl, hn, hc, hm, fun hne => ?_⟩
  obtain ⟨b, off, rfl, hb, hcell⟩ := hx hne
  refine ⟨b, off, rfl, Nat.lt_of_lt_of_le hb k.size, fun j hj => ?_⟩
  obtain ⟨h1, a', cap', h2, h3⟩ := hcell j hj
  exact ⟨k.cell h1 (by simp), a', cap', k.cell h2 (by simp), h3.frame k (fun _ _ hm => by cases hm)⟩
def catL (cs : List Cmd) : List UInt8 := cs.flatMap (·.2)
theorem catL_snoc (cs : List Cmd) (k : Nat) (h : k < cs.length) : catL (cs.take (k + 1)) = catL (cs.take k) ++ (cs.getD k (0, [])).2 := by
  unfold catL
  rw [List.take_succ_eq_append_getElem h, List.flatMap_append]
  simp [List.getD_eq_getElem?_getD, h]
theorem catL_take_le (cs : List Cmd) (k : Nat) : (catL (cs.take k)).length ≤ (catL cs).length := by
  unfold catL
  conv => rhs; rw [← List.take_append_drop k cs, List.flatMap_append, List.length_append]
  omega
theorem catL_get_le (cs : List Cmd) (k : Nat) (h : k < cs.length) : (catL (cs.take k)).length + (cs.getD k (0, [])).2.length ≤ (catL cs).length := by
  have h1 := catL_snoc cs k h
  have h2 := catL_take_le cs (k + 1)
  rw [h1, List.length_append] at h2
  exact h2

def words (sub kind flags : Nat) (cs : List Cmd) : List Nat := [4277009103, 16777228, sub, kind, cs.length, (catL cs).length, flags, 0]
def headL (ws : List Nat) : List UInt8 := ws.flatMap le4
def makeL (sub kind flags : Nat) (cs : List Cmd) : List UInt8 := headL (words sub kind flags cs) ++ catL cs
def makeE (sub kind : Int) (cs : List Cmd) : Int :=
  if kindB sub kind = false then 2 else if (cs.all fun c => mayB c.1 c.2) = false then 2 else if 256 < cs.length ∨ 1048576 < 32 + (catL cs).length then 11 else 0


end Go.Proofs.YtgjlgamlmmjdpaaDoor
