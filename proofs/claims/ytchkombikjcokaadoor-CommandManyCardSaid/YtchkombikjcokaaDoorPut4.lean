/- command.put: four bytes, the lowest first; append of noughts at this program. -/
import Derived.Test.YtchkombikjcokaaDoorMem
import Derived.Test.YtchkombikjcokaaDoorZero
namespace Go.Proofs.YtchkombikjcokaaDoor
open Go.RowKit
set_option maxRecDepth 100000

/-- A buffer of the call's own has grown by some bytes. -/
structure Grew (w : World) (base : Nat) (v : Value) (l : List UInt8) (w' : World) (v' : Value) (new : List UInt8) : Prop where
  buf : Buf w' base v' (l ++ new)
  chg : Chg v.ownBlock.toList w w'
  own : v'.ownBlock = v.ownBlock ∨ ∃ k, v'.ownBlock = some k ∧ w.heap.size ≤ k
theorem Grew.pure0 {w w0 w' : World} {base : Nat} {v v' : Value} {l new : List UInt8} (h : Grew w base v l w' v' new) (hb : Buf w base v l) (k : Chg [] w0 w) (hbase : w0.heap.size ≤ base) : Chg [] w0 w' :=
  k.trans h.chg (fun i hm hi => by have := (World.ownsRow.lt hb i (by simpa using hm)).1; omega)
theorem Grew.trans {w w1 w2 : World} {base : Nat} {v v1 v2 : Value} {l n1 n2 : List UInt8} (h : Grew w base v l w1 v1 n1) (k : Grew w1 base v1 (l ++ n1) w2 v2 n2) : Grew w base v l w2 v2 (n1 ++ n2) := by
  refine ⟨by rw [← List.append_assoc]; exact k.buf, h.chg.trans k.chg (fun i hm hi => ?_), ?_⟩
  · rcases h.own with e | ⟨j, e, hj⟩
    · rw [e] at hm; exact hm
    · rw [e] at hm; simp at hm; omega
  · rcases k.own with e | ⟨j, e, hj⟩
    · rcases h.own with e' | ⟨j, e', hj⟩
      · exact .inl (e.trans e')
      · exact .inr ⟨j, e.trans e', hj⟩
    · exact .inr ⟨j, e, Nat.le_trans h.chg.size hj⟩
theorem Grew.mk' {w w0 w' : World} {base : Nat} {v v' : Value} {l new : List UInt8} (hg : Chg [] w w0) (hb : Buf w' base v' (l ++ new)) (hc : w0.grownBy w' v.ownBlock) (ho : v'.ownBlock = v.ownBlock ∨ v'.ownBlock = some w0.heap.size) : Grew w base v l w' v' new :=
  ⟨hb, hg.add.same (Chg.of_grown hc), ho.imp id fun h => ⟨_, h, hg.size⟩⟩

def le4 (n : Nat) : List UInt8 := [UInt8.ofNat (n % 256), UInt8.ofNat (n / 256 % 256), UInt8.ofNat (n / 65536 % 256), UInt8.ofNat (n / 16777216)]
theorem byteV_nat (x : Nat) (h : x < 256) : byteV (UInt8.ofNat x) = .int .u8 x := by
  have e : (UInt8.ofNat x).toNat = x := by simp; omega
  simp [byteV, e]
theorem bytesV_le4 (n : Nat) (hn : n < 4294967296) : bytesV (le4 n) = [.int .u8 ((n : Int) % 256), .int .u8 ((n : Int) / 256 % 256), .int .u8 ((n : Int) / 65536 % 256), .int .u8 ((n : Int) / 16777216)] := by
  unfold le4 bytesV
  simp only [List.map_cons, List.map_nil]
  rw [byteV_nat _ (by omega), byteV_nat _ (by omega), byteV_nat _ (by omega), byteV_nat _ (by omega)]
  simp
theorem bytesV_zeros (m : Nat) : bytesV (List.replicate m 0) = List.replicate m (.int .u8 0) := by simp [bytesV, byteV]
theorem app_zeros {w : World} {ops : Array Oper} {rest : List Oper} {o : Oper} {a : Act} {Q : Exit → Act → World → Prop} (hgd : o.guard = none) (s x : Operand)
    (ho : o.op = .call { callee := .builtin .append, args := #[s, x], argTypes := #[24, 3] })
    (base : Nat) (v : Value) (l : List UInt8) (hs : a.eval s = v) (hown : Buf w base v l) (m : Nat) (hx : a.eval x = .int .i64 m) (hle : l.length + m ≤ 140737488355328) (hbase : base ≤ w.heap.size)
    (h : ∀ v' w', Buf w' base v' (l ++ List.replicate m 0) → w.grownBy w' v.ownBlock → (v'.ownBlock = v.ownBlock ∨ v'.ownBlock = some w.heap.size) → wpList Tryd.prog ops Q rest (a.put o.dst v') w') :
    wpList Tryd.prog ops Q (o :: rest) a w := by
  obtain ⟨i0, hi, hz0, hz1, hz2⟩ := info_parts Tryd.infoU8
  obtain ⟨v', w', hrun, h1, h2, h3⟩ := run_append_zeros (P := Tryd.prog) w base 24 3 o.type 5 i0 .i64 Tryd.underlying24 Tryd.underlying3 hi hz0 hz1 hz2 v l.length (bytesV l) hown m hle hbase
  refine wpList_plain hgd fun K hK => ?_
  unfold Oper.wp
  simp [execOp, ho, resolve, invoke, builtin, hs, hx, hrun, Result.andThen]
  refine hK _ _ (h v' w' ?_ h2 h3)
  unfold Buf
  rw [bytesV_append, bytesV_zeros, List.length_append, List.length_replicate]
  exact h1

/-- append(b, x...), b a buffer of the call's own. -/
theorem app_buf {w : World} {ops : Array Oper} {rest : List Oper} {o : Oper} {a : Act} {Q : Exit → Act → World → Prop} (hgd : o.guard = none) (s x : Operand)
    (ho : o.op = .call { callee := .builtin .append, args := #[s, x], argTypes := #[24, 24] })
    (base : Nat) (v : Value) (l : List UInt8) (hs : a.eval s = v) (hown : Buf w base v l) (xv : Value) (hx : a.eval x = xv) (new : List UInt8) (hrd : Rd w xv (bytesV new)) (hle : l.length + new.length ≤ 140737488355328) (hbase : base ≤ w.heap.size)
    (h : ∀ v' w', Buf w' base v' (l ++ new) → w.grownBy w' v.ownBlock → (v'.ownBlock = v.ownBlock ∨ v'.ownBlock = some w.heap.size) → wpList Tryd.prog ops Q rest (a.put o.dst v') w') :
    wpList Tryd.prog ops Q (o :: rest) a w :=
  app_bytes_at hgd s x ho base v l.length (bytesV l) hs hown xv hx new hrd hle hbase (fun v' w' h1 h2 h3 => h v' w' (Buf.app h1) h2 h3)
theorem put_any (v : Value) (l : List UInt8) (n : Nat) (hn : n < 4294967296) (base : Nat) (w : World) (hb : Buf w base v l) (hbase : base ≤ w.heap.size) (hl : l.length ≤ 70368744177664) :
    Calls Tryd.prog 40 #[v, .int .u32 n] w fun e w' => ∃ v', e = .returned v' ∧ Grew w base v l w' v' (le4 n) := by
  have HR : Hid (Rd (w.alloc (.cells #[.int .u8 ((n : Int) % 256), .int .u8 ((n : Int) / 256 % 256), .int .u8 ((n : Int) / 65536 % 256), .int .u8 ((n : Int) / 16777216)] 5)) (.slice (some ⟨w.heap.size, 0, none⟩) 4 4) (bytesV (le4 n))) := by
    refine Lib.hid ?_
    rw [bytesV_le4 n hn]
    exact Rd_new w _ _ 4 rfl (by show 4 ≤ maxLen; unfold maxLen; omega)
  have hlen : (le4 n).length = 4 := rfl
  have H4 := Lib.hid (hlen)
  clear hlen
  have Hb := Lib.hid hb
  have Hbase := Lib.hid hbase
  clear hb hbase
  go_enter Tryd.func40, Tryd.ntmps40
  go_wp2_with (at_builtin; refine app_bytes_at rfl _ _ rfl base v l.length (bytesV l) rfl (Hb.out.pure ((Chg.refl [] w).alloc _)) _ rfl (le4 n) HR.out (by rw [H4.out]; omega) (by have := Hbase.out; simp; omega) ?_; intro va wa hoa hga haa; refine Hid.out ?_)
  refine Lib.hid ?_
  have HG : Hid (Grew w base v l wa va (le4 n)) := Lib.hid (Grew.mk' ((Chg.refl [] w).alloc _) (Buf.app hoa) hga haa)
  clear hoa hga haa
  go_wp2
  go_ret
  exact ⟨_, rfl, HG.out⟩
end Go.Proofs.YtchkombikjcokaaDoor
