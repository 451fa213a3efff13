/- Lemmas, laid together: part 36 of 41. Conditions: none but each lemma's own. -/
import Derived.Test.YtkomocgodljecaaGreatDoorK17
import Derived.Test.YtkomocgodljecaaGreatDoorK15
import Derived.Test.YtkomocgodljecaaGreatDoorK20
import Derived.Test.YtkomocgodljecaaGreatDoorK13
/- Steps of a drawn region on rows of bytes: a slice of one built, a row and a string appended. -/
namespace Go.Proofs.YtkomocgodljecaaGreatDoor
open Go.RowKit
set_option maxRecDepth 100000

theorem armBsV {P : Program} {T E : TypeId} {o : Oper} {a : Act} {w : World} {K : Act → World → Prop} {Q : Exit → Act → World → Prop} {tm : Nat → Option Bool} (hgd : o.guard = none) (s : Operand) (ho : o.op = .buildSlice T 1 #[(0, s)]) (v : Value)
    (hr : ∀ w, (Instr.buildSlice T 1 #[(0, v)]).run P w = .ok (.slice (some ⟨w.heap.size, 0, none⟩) 1 1) (w.alloc (.cells #[v] E))) (hs : a.eval s = v)
    (h : K (a.put o.dst (.slice (some ⟨w.heap.size, 0, none⟩) 1 1)) (w.alloc (.cells #[v] E))) : if Region.wanted o tm = true then Oper.wp P o a w K Q else K (a.put o.dst undef) w := by
  rw [if_pos (by simp [Region.wanted, hgd])]
  have hrw := hr w
  unfold Oper.wp execOp
  simp only [ho, List.map_toArray, List.map_cons, List.map_nil, hs, Sem.run_bind, hrw, Result.andThen_ok, Sem.run_pure]
  exact h
theorem bs_u8 (x : Int) (w : World) : (Instr.buildSlice 34 1 #[(0, .int .u8 x)]).run Tryz.prog w = .ok (.slice (some ⟨w.heap.size, 0, none⟩) 1 1) (w.alloc (.cells #[.int .u8 x] 5)) := by
  go_simp
theorem run_app_str (w : World) (ty : TypeId) (base : Nat) (v : Value) (l : List UInt8) (hown : BB w base v l) (s : ByteArray) (hle : l.length + s.size ≤ 140737488355328) (hbase : base ≤ w.heap.size) :
    ∃ v' w', (Builtin.append_ #[34, 9] ty #[v, .string s]).run Tryz.prog w = .ok v' w' ∧ BB w' base v' (l ++ s.data.toList) ∧ w.grownBy w' v.ownBlock ∧ (v'.ownBlock = v.ownBlock ∨ v'.ownBlock = some w.heap.size) := by
  obtain ⟨i, z, hi, hz, hz1, hz2, hz3⟩ := Tryz.infoByte.i
  replace hz1 : i.size = 1 := hz1
  have hz' : i.zero = some (.int .u8 0) := by
    have e : (Tryz.prog.info? 5).map (fun i => i.zero) = some (some (.int .u8 0)) := by kernel_rfl
    rw [hi] at e
    simpa using e
  have hy := hown
  unfold BB Lay.Buf at hy
  have hm : l.length + s.size ≤ maxLen := by unfold maxLen; omega
  obtain ⟨v', w', hr, h2, h3, _⟩ := Lib.run_append_own_string (P := Tryz.prog) w base 34 9 ty 5 i Tryz.infoByte.u Tryz.uStr hi hz' hz1 hz2 v l.length (byteL.vals l) hy s hm hle hbase
  have h4 : BB w' base v' (l ++ s.data.toList) := by
    unfold BB Lay.Buf
    rw [Lay.vals_append, List.length_append, str_len, ← str_vals]
    exact h2
  have h5 : v'.ownBlock = v.ownBlock ∨ v'.ownBlock = some w.heap.size := by
    rcases hy.2 with ⟨rfl, h0⟩ | ⟨g, cap, cur, rfl, hbg, hg, hnc, hcm, hcs, htake⟩
    · by_cases hm0 : s.size = 0
      · have hb := h2.2
        rcases hb with ⟨rfl, _⟩ | ⟨g, cap, cur, rfl, _, _, _, _, _, _⟩
        · exact .inl rfl
        · exfalso
          have hf := Lib.run_firstCells_string (P := Tryz.prog) w 1 s
          have hn : Lib.strCells s = [] := List.eq_nil_of_length_eq_zero (by rw [Lib.strCells_length]; exact hm0)
          rw [hm0, hn] at hf
          simp [Builtin.append_, run_underlying Tryz.infoByte.u, run_underlying Tryz.uStr, sizeOf, typeInfo, hi, hz1, Builtin.lenOf, hm0, hf] at hr
      · have hq := run_append_nil_string (P := Tryz.prog) w 34 9 ty 5 i (.int .u8 0) Tryz.infoByte.u Tryz.uStr hi hz' s (by omega) (by omega) (by rw [hz2]; omega)
        rw [hq] at hr
        cases hr
        exact .inr rfl
    · by_cases hroom : l.length + s.size ≤ cap
      · have hcs' : cur.size = cap := by rw [show byteL.n = 1 from rfl, Nat.mul_one] at hcs; exact hcs
        have hq := Lib.run_append_room_string (P := Tryz.prog) w 34 9 ty 5 i Tryz.infoByte.u Tryz.uStr hi hz1 g l.length cap cur hg s hroom (by omega)
        rw [hq] at hr
        cases hr
        exact .inl rfl
      · have hxl : (byteL.vals l).length = l.length := by rw [Lay.vals_len]; exact Nat.mul_one _
        have holds : ∀ j u, (byteL.vals l)[j]? = some u → w.cell? ((⟨g, 0, none⟩ : Addr).add j) = some u := hy.cells (g := g) rfl
        have hq := Lib.run_append_grow_string (P := Tryz.prog) w 34 9 ty 5 i (.int .u8 0) Tryz.infoByte.u Tryz.uStr hi hz' ⟨g, 0, none⟩ l.length cap (byteL.vals l) (by rw [hz1, Nat.mul_one]; exact hxl) holds s (by omega) (by omega) (by rw [hz2]; exact growslice_fits (by omega) (by omega))
        rw [hq] at hr
        cases hr
        exact .inr rfl
  exact ⟨v', w', hr, h4, h3, h5⟩
theorem armStr {o : Oper} {a : Act} {w : World} {K : Act → World → Prop} {Q : Exit → Act → World → Prop} {tm : Nat → Option Bool} (hgd : o.guard = none) (sl x : Operand) (ho : o.op = .call { callee := .builtin .append, args := #[sl, x], argTypes := #[34, 9] })
    (base : Nat) (v : Value) (l : List UInt8) (hs : a.eval sl = v) (hown : BB w base v l) (s : ByteArray) (hx : a.eval x = .string s) (hle : l.length + s.size ≤ 140737488355328) (hbase : base ≤ w.heap.size)
    (h : ∀ v' w', BB w' base v' (l ++ s.data.toList) → w.grownBy w' v.ownBlock → (v'.ownBlock = v.ownBlock ∨ v'.ownBlock = some w.heap.size) → K (a.put o.dst v') w') : if Region.wanted o tm = true then Oper.wp Tryz.prog o a w K Q else K (a.put o.dst undef) w := by
  rw [if_pos (by simp [Region.wanted, hgd])]
  obtain ⟨v', w', hr, h1, h2, h3⟩ := run_app_str w o.type base v l hown s hle hbase
  unfold Oper.wp execOp
  simp only [ho, resolve, invoke, builtin, Sem.run_bind, Sem.run_pure, Result.andThen_ok, List.map_toArray, List.map_cons, List.map_nil, hs, hx, hr]
  exact h _ _ h1 h2 h3
/-- A slice of one byte, beside a row that it does not share. -/
def Bit (g c : Nat) (x : UInt8) (v : Value) (w : World) : Prop := byteL.Rd w (.slice (some ⟨g, 0, none⟩) 1 c) [x] ∧ g < w.heap.size ∧ v.ownBlock ≠ some g
/-- A row of the call's own, ahead of which nothing is written. -/
structure Row (w0 : World) (base : Nat) (v : Value) (l : List UInt8) (w : World) : Prop where
  bb : BB w base v l
  sz : base ≤ w.heap.size
  lo : w0.heap.size ≤ base
  cg : Chg [] w0 w
theorem Row.pure {w0 w w' : World} {base : Nat} {v : Value} {l : List UInt8} (h : Row w0 base v l w) (k : Chg [] w w') : Row w0 base v l w' := ⟨h.bb.pure k, Nat.le_trans h.sz k.size, h.lo, h.cg.then k⟩
theorem Bit.pure {g c : Nat} {x : UInt8} {v : Value} {w w' : World} (h : Bit g c x v w) (k : Chg [] w w') : Bit g c x v w' := ⟨h.1.frame k, Nat.lt_of_lt_of_le h.2.1 k.size, h.2.2⟩
theorem Bit.new {w0 w : World} {base : Nat} {v : Value} {l : List UInt8} (h : Row w0 base v l w) (x : UInt8) (z : Int) (hz : z = (x.toNat : Int)) : Bit w.heap.size 1 x v (w.alloc (.cells #[.int .u8 z] 5)) := by
  subst hz
  refine ⟨Lay.Rd.of_heap (ls := [x]) (heap_alloc_eq _ _) rfl rfl (show 1 ≤ maxLen by decide), by simp, fun e => ?_⟩
  have := (h.bb.lt _ e).2
  omega
theorem Row.grown {w0 w w' : World} {base : Nat} {v v' : Value} {l l' : List UInt8} (h : Row w0 base v l w) (hb : BB w' base v' l') (hg : w.grownBy w' v.ownBlock) : Row w0 base v' l' w' := by
  have k := Lay.chg_grown hg
  refine ⟨hb, Nat.le_trans h.sz k.size, h.lo, h.cg.trans k (fun i hi hw => ?_)⟩
  have := (h.bb.lt i (by simpa using hi)).1
  have := h.lo
  omega
theorem Bit.grown {g c : Nat} {x : UInt8} {v v' : Value} {w w' : World} (h : Bit g c x v w) (hg : w.grownBy w' v.ownBlock) (hl : v'.ownBlock = v.ownBlock ∨ v'.ownBlock = some w.heap.size) : Bit g c x v' w' := by
  have k := Lay.chg_grown hg
  refine ⟨h.1.frameS k (fun b hb hm => ?_), Nat.lt_of_lt_of_le h.2.1 k.size, fun e => ?_⟩
  · cases hb
    exact h.2.2 (by simpa using hm)
  · rcases hl with e2 | e2
    · exact h.2.2 (e2.symm.trans e)
    · rw [e2] at e
      have := h.2.1
      simp at e
      omega
section
variable {o : Oper} {a : Act} {w w0 : World} {K : Act → World → Prop} {Q : Exit → Act → World → Prop} {tm : Nat → Option Bool} {base : Nat} {v : Value} {l : List UInt8}
theorem armBit (hgd : o.guard = none) (s : Operand) (ho : o.op = .buildSlice 34 1 #[(0, s)]) (x : UInt8) (z : Int) (hz : z = (x.toNat : Int)) (hs : a.eval s = .int .u8 z) (hr : Row w0 base v l w)
    (h : ∀ w' g, Row w0 base v l w' → Bit g 1 x v w' → Chg [] w w' → K (a.put o.dst (.slice (some ⟨g, 0, none⟩) 1 1)) w') : if Region.wanted o tm = true then Oper.wp Tryz.prog o a w K Q else K (a.put o.dst undef) w :=
  armBsV hgd s ho (.int .u8 z) (bs_u8 z) hs (h _ _ (hr.pure ((Chg.refl [] w).alloc _)) (Bit.new hr x z hz) ((Chg.refl [] w).alloc _))
theorem armAppB (hgd : o.guard = none) (s x : Operand) (ho : o.op = .call { callee := .builtin .append, args := #[s, x], argTypes := #[34, 34] }) (hs : a.eval s = v) (hr : Row w0 base v l w) {g c : Nat} {y : UInt8} (hb : Bit g c y v w) (hx : a.eval x = .slice (some ⟨g, 0, none⟩) 1 c) (hl : l.length ≤ 1000)
    (h : ∀ v' w', Row w0 base v' (l ++ [y]) w' → (∀ g' c' y', Bit g' c' y' v w → Bit g' c' y' v' w') → K (a.put o.dst v') w') : if Region.wanted o tm = true then Oper.wp Tryz.prog o a w K Q else K (a.put o.dst undef) w :=
  Lay.armApp (L := byteL) Tryz.infoByte hgd s x ho base v l hs hr.bb ⟨g, 0, none⟩ 1 c hx [y] hb.1 (by simp; omega) (by simp; omega) hr.sz (fun v' w' h1 h2 h3 => h v' w' (hr.grown h1 h2) (fun _ _ _ hb' => hb'.grown h2 h3))
theorem armAppS (hgd : o.guard = none) (s x : Operand) (ho : o.op = .call { callee := .builtin .append, args := #[s, x], argTypes := #[34, 9] }) (hs : a.eval s = v) (hr : Row w0 base v l w) (t : ByteArray) (hx : a.eval x = .string t) (hl : l.length ≤ 1000) (ht : t.size ≤ 1000)
    (h : ∀ v' w', Row w0 base v' (l ++ t.data.toList) w' → (∀ g' c' y', Bit g' c' y' v w → Bit g' c' y' v' w') → K (a.put o.dst v') w') : if Region.wanted o tm = true then Oper.wp Tryz.prog o a w K Q else K (a.put o.dst undef) w :=
  armStr hgd s x ho base v l hs hr.bb t hx (by omega) hr.sz (fun v' w' h1 h2 h3 => h v' w' (hr.grown h1 h2) (fun _ _ _ hb' => hb'.grown h2 h3))
end
end Go.Proofs.YtkomocgodljecaaGreatDoor
/- leb.Put and leb.PutSigned, walked. -/
namespace Go.Proofs.YtkomocgodljecaaGreatDoor
open Go.RowKit

theorem cell_one_newP' (w : World) (v : Value) (T : TypeId) : ∀ j u, [v][j]? = some u → (w.alloc (.cells #[v] T)).cell? ((⟨w.heap.size, 0, none⟩ : Addr).add j) = some u := by
  intro j u hj
  match j, hj with
  | 0, hj => simp at hj; subst hj; simp [Addr.add]
theorem one_intP (k : IntKind) (n : Int) : ∀ u ∈ [Value.int k n], u.oneCell' = true := by
  intro u hu; simp at hu; subst hu; rfl
set_option maxRecDepth 100000 in
theorem Put_any (n : Nat) (w : World) (hn : n < 18446744073709551616) :
    Calls Tryz.prog 16 #[.int .u64 n] w fun e w' => ∃ v, e = .returned v ∧ w'.ownsRow w.heap.size 5 1 v (putU n).length (bytesV (putU n)) ∧ Chg [] w w' := by
  obtain ⟨i0, hi, hz0, hz1, hz2⟩ := info_parts Tryz.infoU8
  have HN := Lib.hid hn
  clear hn
  go_enter Tryz.func16, Tryz.ntmps16
  go_wp2
  go_loopw [0, 3] (fun s0 v wr => ∃ (m f : Nat) (l : List UInt8), s0 = .int .u64 m ∧ m < 128 ^ (f + 1) ∧ f ≤ 9 ∧ m < 18446744073709551616 ∧ l.length + f = 9 ∧ l ++ putUf f m = putU n ∧ wr.ownsRow w.heap.size 5 1 v l.length (bytesV l) ∧ Chg [] w wr) (fun s0 _ _ => (intOf s0).toNat)
  case atStart => exact ⟨n, 9, [], rfl, by have := HN.out; omega, by omega, HN.out, rfl, rfl, World.ownsRow_nil _ _ _ _, Chg.refl _ _⟩
  case round =>
    obtain ⟨m, f, l, rfl, hm, hf, hm64, hl, hput, hown, hchg⟩ := hrel
    have HP := Lib.hid hput
    have HC := Lib.hid hchg
    have HL := Lib.hid hl
    have HM := Lib.hid hm
    have HM64 := Lib.hid hm64
    have hsz := hchg.size
    clear hput hchg hl hm hm64
    by_cases h128 : 128 ≤ m
    · obtain ⟨x, hx⟩ : ∃ x : Nat, x = m % 128 + 128 := ⟨_, rfl⟩
      have hE : bits .or .u8 ((m : Int) % 256) 128 = (x : Int) := by
        rw [hx, show (m : Int) % 256 = ((m % 256 : Nat) : Int) from by omega]
        have := u8_or_nat (m % 256) 128 (by omega) (by decide)
        rw [show ((128 : Nat) : Int) = 128 from rfl] at this
        rw [this, or128 (m % 256) (by omega)]
        omega
      have HX := Lib.hid hx
      clear hx
      go_wp2_with (at_builtin; refine wpList_append_own _ rfl _ _ 34 rfl w.heap.size 5 i0 (.int .u8 0) 1 1 Tryz.underlying34 hi hz0 hz1 hz2 rfl (by decide) _ _ _ rfl (hown.alloc _) ⟨wr.heap.size, 0, none⟩ 1 1 [.int .u8 x] rfl rfl ?c1 ?c2 ?c3 ?c4 ?c5 ?_)
      case c1 =>
        intro j u hj
        match j, hj with
        | 0, hj => simp at hj; subst hj; simp [Addr.add]
      case c2 => intro u hu; simp at hu; subst hu; rfl
      case c3 => have := HL.out; unfold maxLen; omega
      case c4 => have := HL.out; omega
      case c5 => simp; omega
      intro v' w1 hown' hgrow _
      have HO := Lib.hid hown'
      have HGR := Lib.hid hgrow
      have HLT := Lib.hid hown.lt
      clear hown' hgrow hown
      go_wp2
      go_roundw
      case rel =>
        have h9 : 0 < f := by
          rcases Nat.eq_zero_or_pos f with h0 | h0
          · exfalso; have := HM.out; rw [h0] at this; omega
          · exact h0
        obtain ⟨f', rfl⟩ : ∃ f', f = f' + 1 := ⟨f - 1, by omega⟩
        refine ⟨m / 128, f', l ++ [UInt8.ofNat x], by go_num, ?_, by omega, by have := HM64.out; omega, by have := HL.out; simp; omega, ?_, ?_, ?_⟩
        · have := HM.out
          rw [Nat.pow_succ] at this
          omega
        · rw [← HP.out, putUf_step f' m h128, HX.out]; simp
        · have := HO.out
          rw [show bytesV (l ++ [UInt8.ofNat x]) = bytesV l ++ [.int .u8 x] from ?_, List.length_append]
          · exact this
          · have := HX.out
            have e : (UInt8.ofNat x).toNat = x := by simp; omega
            simp [bytesV, byteV, e]
        · exact (HC.out.alloc _).grown HGR.out (fun k hk => .inr (HLT.out k hk).1)
      case measure => simp [intOf]; omega
    · have HX : Hid (m < 128) := Nat.lt_of_not_le h128
      go_wp2_with (at_builtin; refine wpList_append_own _ rfl _ _ 34 rfl w.heap.size 5 i0 (.int .u8 0) 1 1 Tryz.underlying34 hi hz0 hz1 hz2 rfl (by decide) _ _ _ rfl (hown.alloc _) ⟨wr.heap.size, 0, none⟩ 1 1 [.int .u8 m] rfl rfl ?c1 ?c2 ?c3 ?c4 ?c5 ?_)
      case c1 =>
        intro j u hj
        match j, hj with
        | 0, hj => simp at hj; subst hj; simp [Addr.add]
      case c2 => intro u hu; simp at hu; subst hu; rfl
      case c3 => have := HL.out; unfold maxLen; omega
      case c4 => have := HL.out; omega
      case c5 => simp; omega
      intro v' w1 hown' hgrow _
      have HO := Lib.hid hown'
      have HGR := Lib.hid hgrow
      have HLT := Lib.hid hown.lt
      clear hown' hgrow hown
      go_wp2
      go_ret
      have e1 : putU n = l ++ [UInt8.ofNat m] := by rw [← HP.out, putUf_small f m HX.out]
      refine ⟨_, rfl, ?_, (HC.out.alloc _).grown HGR.out (fun k hk => .inr (HLT.out k hk).1)⟩
      have := HO.out
      rw [e1, show bytesV (l ++ [UInt8.ofNat m]) = bytesV l ++ [.int .u8 m] from ?_, List.length_append]
      · exact this
      · have := HX.out
        have e : (UInt8.ofNat m).toNat = m := by simp; omega
        simp [bytesV, byteV, e]
set_option maxRecDepth 100000 in
theorem PutSigned_any (n : Int) (w : World) (hn : -9223372036854775808 ≤ n ∧ n < 9223372036854775808) :
    Calls Tryz.prog 17 #[.int .i64 n] w fun e w' => ∃ v, e = .returned v ∧ w'.ownsRow w.heap.size 5 1 v (putS n).length (bytesV (putS n)) ∧ Chg [] w w' := by
  obtain ⟨i0, hi, hz0, hz1, hz2⟩ := info_parts Tryz.infoU8
  have HN := Lib.hid hn
  clear hn
  go_enter Tryz.func17, Tryz.ntmps17
  go_wp2
  go_loopw [0, 3] (fun s0 v wr => ∃ (m : Int) (f : Nat) (l : List UInt8), s0 = .int .i64 m ∧ (-(64 * 128 ^ f) ≤ m ∧ m < 64 * 128 ^ f) ∧ f ≤ 9 ∧ (-9223372036854775808 ≤ m ∧ m < 9223372036854775808) ∧ l.length + f = 9 ∧ l ++ putSf f m = putS n ∧ wr.ownsRow w.heap.size 5 1 v l.length (bytesV l) ∧ Chg [] w wr) (fun s0 _ _ => (intOf s0).natAbs)
  case atStart => exact ⟨n, 9, [], rfl, by have := HN.out; omega, by omega, HN.out, rfl, rfl, World.ownsRow_nil _ _ _ _, Chg.refl _ _⟩
  case round =>
    obtain ⟨m, f, l, rfl, hm, hf, hm64, hl, hput, hown, hchg⟩ := hrel
    have HP := Lib.hid hput
    have HC := Lib.hid hchg
    have HL := Lib.hid hl
    have HM := Lib.hid hm
    have HM64 := Lib.hid hm64
    have hsz := hchg.size
    clear hput hchg hl hm hm64
    obtain ⟨hm1, hm2⟩ := HM64.out
    by_cases h128 : -64 ≤ m ∧ m < 64
    · obtain ⟨hs1, hs2⟩ := h128
      obtain ⟨x, hx⟩ : ∃ x : Nat, x = (m % 128).toNat := ⟨_, rfl⟩
      have hE : bits .and .u8 (m % 256) 127 = (x : Int) := by
        rw [show m % 256 = (((m % 256).toNat : Nat) : Int) from by omega, and127 _ (by omega)]
        omega
      have HX := Lib.hid hx
      clear hx
      go_wp2_with (at_builtin; refine wpList_append_own _ rfl _ _ 34 rfl w.heap.size 5 i0 (.int .u8 0) 1 1 Tryz.underlying34 hi hz0 hz1 hz2 rfl (by decide) _ _ _ rfl (hown.alloc _) ⟨wr.heap.size, 0, none⟩ 1 1 [.int .u8 x] rfl rfl ?c1 ?c2 ?c3 ?c4 ?c5 ?_)
      case c1 =>
        intro j u hj
        match j, hj with
        | 0, hj => simp at hj; subst hj; simp [Addr.add]
      case c2 => intro u hu; simp at hu; subst hu; rfl
      case c3 => have := HL.out; unfold maxLen; omega
      case c4 => have := HL.out; omega
      case c5 => simp; omega
      intro v' w1 hown' hgrow _
      have HO := Lib.hid hown'
      have HGR := Lib.hid hgrow
      have HLT := Lib.hid hown.lt
      clear hown' hgrow hown
      go_wp2
      go_ret
      have e1 : putS n = l ++ [UInt8.ofNat x] := by rw [← HP.out, putSf_small f m ⟨hs1, hs2⟩, HX.out]
      refine ⟨_, rfl, ?_, (HC.out.alloc _).grown HGR.out (fun k hk => .inr (HLT.out k hk).1)⟩
      have := HO.out
      rw [e1, show bytesV (l ++ [UInt8.ofNat x]) = bytesV l ++ [.int .u8 x] from ?_, List.length_append]
      · exact this
      · have := HX.out
        have e : (UInt8.ofNat x).toNat = x := by simp; omega
        simp [bytesV, byteV, e]
    · obtain ⟨x, hx⟩ : ∃ x : Nat, x = (m % 128).toNat + 128 := ⟨_, rfl⟩
      have hE : bits .or .u8 (m % 256) 128 = (x : Int) := by
        have := u8_or_nat (m % 256).toNat 128 (by omega) (by decide)
        rw [show ((128 : Nat) : Int) = 128 from rfl] at this
        rw [show m % 256 = (((m % 256).toNat : Nat) : Int) from by omega, this, or128 _ (by omega)]
        omega
      have hsp : m < -64 ∨ (¬ m < -64 ∧ 64 ≤ m) := by omega
      have HX := Lib.hid hx
      have H128 := Lib.hid h128
      clear hx h128
      have fin : ∀ (v' : Value) (w1 : World), w1.ownsRow w.heap.size 5 1 v' (l.length + 1) (bytesV l ++ [.int .u8 x]) → Chg [] w w1 →
          ∃ (m' : Int) (f' : Nat) (l' : List UInt8), Value.int .i64 (m / 128) = .int .i64 m' ∧ (-(64 * 128 ^ f') ≤ m' ∧ m' < 64 * 128 ^ f') ∧ f' ≤ 9 ∧ (-9223372036854775808 ≤ m' ∧ m' < 9223372036854775808) ∧ l'.length + f' = 9 ∧ l' ++ putSf f' m' = putS n ∧ w1.ownsRow w.heap.size 5 1 v' l'.length (bytesV l') ∧ Chg [] w w1 := by
        intro v' w1 ho hc
        have h9 : 0 < f := by
          rcases Nat.eq_zero_or_pos f with h0 | h0
          · exfalso; have h1 := HM.out; have h2 := H128.out; rw [h0] at h1; omega
          · exact h0
        obtain ⟨f', rfl⟩ : ∃ f', f = f' + 1 := ⟨f - 1, by omega⟩
        refine ⟨m / 128, f', l ++ [UInt8.ofNat x], rfl, ?_, by omega, by omega, by have := HL.out; simp; omega, ?_, ?_, hc⟩
        · have := HM.out
          rw [Int.pow_succ] at this
          omega
        · rw [← HP.out, putSf_step f' m H128.out, HX.out]; simp
        · rw [show bytesV (l ++ [UInt8.ofNat x]) = bytesV l ++ [.int .u8 x] from ?_, List.length_append]
          · exact ho
          · have := HX.out
            have e : (UInt8.ofNat x).toNat = x := by simp; omega
            simp [bytesV, byteV, e]
      have HF := Lib.hid fin
      clear fin
      rcases hsp with hsp | ⟨hsp1, hsp2⟩
      all_goals
        go_wp2_with (at_builtin; refine wpList_append_own _ rfl _ _ 34 rfl w.heap.size 5 i0 (.int .u8 0) 1 1 Tryz.underlying34 hi hz0 hz1 hz2 rfl (by decide) _ _ _ rfl (hown.alloc _) ⟨wr.heap.size, 0, none⟩ 1 1 [.int .u8 x] rfl rfl (cell_one_newP' _ _ _) (one_intP _ _) (by have := HL.out; unfold maxLen; omega) (by have := HL.out; omega) (by simp; omega) ?_; intro v' w1 hown' hgrow _)
        have HO := Lib.hid hown'
        have HGR := Lib.hid hgrow
        have HLT := Lib.hid hown.lt
        clear hown' hgrow hown
        go_wp2
        go_roundw
        case rel => exact HF.out _ _ HO.out ((HC.out.alloc _).grown HGR.out (fun k hk => .inr (HLT.out k hk).1))
        case measure => simp [intOf]; omega
end Go.Proofs.YtkomocgodljecaaGreatDoor
/- Steps of a drawn region on a row of bytes that stood there ahead of it: what is appended, and what stays. -/
namespace Go.Proofs.YtkomocgodljecaaGreatDoor
open Go.RowKit
set_option maxRecDepth 100000

/-- A row of bytes, as it grew from what it was in the world W. -/
structure Gro (W : World) (base : Nat) (v0 v : Value) (l : List UInt8) (w : World) : Prop where
  bb : BB w base v l
  sz : base ≤ w.heap.size
  cg : Chg v0.ownBlock.toList W w
  loc : Loc W v0 v
theorem Gro.start {W : World} {base : Nat} {v : Value} {l : List UInt8} (h : BB W base v l) (hs : base ≤ W.heap.size) : Gro W base v v l W := ⟨h, hs, Chg.refl _ _, .inl rfl⟩
theorem Gro.pure {W w w' : World} {base : Nat} {v0 v : Value} {l : List UInt8} (h : Gro W base v0 v l w) (k : Chg [] w w') : Gro W base v0 v l w' := ⟨h.bb.pure k, Nat.le_trans h.sz k.size, h.cg.then k, h.loc⟩
theorem Gro.grown {W w w' : World} {base : Nat} {v0 v v' : Value} {l l' : List UInt8} (h : Gro W base v0 v l w) (hb : BB w' base v' l') (hg : w.grownBy w' v.ownBlock) (hl : v'.ownBlock = v.ownBlock ∨ v'.ownBlock = some w.heap.size) : Gro W base v0 v' l' w' := by
  have k := Lay.chg_grown hg
  refine ⟨hb, Nat.le_trans h.sz k.size, h.cg.trans k (fun i hi hw => ?_), ?_⟩
  · rcases h.loc with e | ⟨j, e, hj⟩
    · rw [e] at hi; exact hi
    · rw [e] at hi; simp at hi; omega
  · rcases hl with e | e
    · rcases h.loc with e2 | ⟨j, e2, hj⟩
      · exact .inl (e.trans e2)
      · exact .inr ⟨j, e.trans e2, hj⟩
    · exact .inr ⟨_, e, h.cg.size⟩
theorem Gro.shape {W w : World} {base : Nat} {v0 v : Value} {l : List UInt8} (h : Gro W base v0 v l w) : ∃ so : SlV, v = so.v := by
  obtain ⟨a, c, he, _⟩ := h.bb.rd.shape
  exact ⟨⟨a, l.length, c⟩, he⟩
theorem Gro.new {W w : World} {base : Nat} {v0 v : Value} {l : List UInt8} (h : Gro W base v0 v l w) {g : Nat} (hg : w.heap.size ≤ g) : v.ownBlock ≠ some g := fun e => by
  have := (h.bb.lt _ e).2
  omega
/-- A row of bytes read, beside a row that it does not share. -/
def Byr (g n c : Nat) (l : List UInt8) (v : Value) (w : World) : Prop := byteL.Rd w (.slice (some ⟨g, 0, none⟩) n c) l ∧ g < w.heap.size ∧ v.ownBlock ≠ some g
theorem Byr.pure {g n c : Nat} {l : List UInt8} {v : Value} {w w' : World} (h : Byr g n c l v w) (k : Chg [] w w') : Byr g n c l v w' := ⟨h.1.frame k, Nat.lt_of_lt_of_le h.2.1 k.size, h.2.2⟩
theorem Byr.grown {g n c : Nat} {l : List UInt8} {v v' : Value} {w w' : World} (h : Byr g n c l v w) (hg : w.grownBy w' v.ownBlock) (hl : v'.ownBlock = v.ownBlock ∨ v'.ownBlock = some w.heap.size) : Byr g n c l v' w' := by
  have k := Lay.chg_grown hg
  have hown : ∀ b, (Value.slice (some ⟨g, 0, none⟩) n c).ownBlock = some b → b = g := fun b hb => by cases hb; rfl
  refine ⟨h.1.frameS k (fun b hb hm => ?_), Nat.lt_of_lt_of_le h.2.1 k.size, fun e => ?_⟩
  · rw [hown b hb] at hm
    exact h.2.2 (by simpa using hm)
  · rcases hl with e2 | e2
    · exact h.2.2 (e2.symm.trans e)
    · rw [e2] at e
      have := h.2.1
      simp at e
      omega
theorem Byr.bit {x : UInt8} {v : Value} {w0 w : World} {base : Nat} {v0 : Value} {l : List UInt8} (h : Gro w0 base v0 v l w) (z : Int) (hz : z = (x.toNat : Int)) : Byr w.heap.size 1 1 [x] v (w.alloc (.cells #[.int .u8 z] 5)) := by
  subst hz
  exact ⟨Lay.Rd.of_heap (ls := [x]) (heap_alloc_eq _ _) rfl rfl (show 1 ≤ maxLen by decide), by simp, h.new (Nat.le_refl _)⟩
section
variable {o : Oper} {a : Act} {w w0 : World} {K : Act → World → Prop} {Q : Exit → Act → World → Prop} {tm : Nat → Option Bool} {base : Nat} {v v0 : Value} {l : List UInt8}
theorem gBit (hgd : o.guard = none) (s : Operand) (ho : o.op = .buildSlice 34 1 #[(0, s)]) (x : UInt8) (z : Int) (hz : z = (x.toNat : Int)) (hs : a.eval s = .int .u8 z) (hr : Gro w0 base v0 v l w)
    (h : ∀ w' g, Gro w0 base v0 v l w' → Byr g 1 1 [x] v w' → Chg [] w w' → K (a.put o.dst (.slice (some ⟨g, 0, none⟩) 1 1)) w') : if Region.wanted o tm = true then Oper.wp Tryz.prog o a w K Q else K (a.put o.dst undef) w :=
  armBsV hgd s ho (.int .u8 z) (bs_u8 z) hs (h _ _ (hr.pure ((Chg.refl [] w).alloc _)) (Byr.bit hr z hz) ((Chg.refl [] w).alloc _))
theorem gApp (hgd : o.guard = none) (s x : Operand) (ho : o.op = .call { callee := .builtin .append, args := #[s, x], argTypes := #[34, 34] }) (hs : a.eval s = v) (hr : Gro w0 base v0 v l w) {g n c : Nat} {ms : List UInt8} (hb : Byr g n c ms v w) (hx : a.eval x = .slice (some ⟨g, 0, none⟩) n c) (hl : l.length ≤ 100000000) (hm : ms.length ≤ 1000)
    (h : ∀ v' w', Gro w0 base v0 v' (l ++ ms) w' → w.grownBy w' v.ownBlock → (v'.ownBlock = v.ownBlock ∨ v'.ownBlock = some w.heap.size) → K (a.put o.dst v') w') : if Region.wanted o tm = true then Oper.wp Tryz.prog o a w K Q else K (a.put o.dst undef) w :=
  Lay.armApp (L := byteL) Tryz.infoByte hgd s x ho base v l hs hr.bb ⟨g, 0, none⟩ n c hx ms hb.1 (by omega) (by omega) hr.sz (fun v' w' h1 h2 h3 => h v' w' (hr.grown h1 h2 h3) h2 h3)
theorem gStr (hgd : o.guard = none) (s x : Operand) (ho : o.op = .call { callee := .builtin .append, args := #[s, x], argTypes := #[34, 9] }) (hs : a.eval s = v) (hr : Gro w0 base v0 v l w) (t : ByteArray) (hx : a.eval x = .string t) (hl : l.length ≤ 100000000) (ht : t.size ≤ 1000)
    (h : ∀ v' w', Gro w0 base v0 v' (l ++ t.data.toList) w' → w.grownBy w' v.ownBlock → (v'.ownBlock = v.ownBlock ∨ v'.ownBlock = some w.heap.size) → K (a.put o.dst v') w') : if Region.wanted o tm = true then Oper.wp Tryz.prog o a w K Q else K (a.put o.dst undef) w :=
  armStr hgd s x ho base v l hs hr.bb t hx (by omega) hr.sz (fun v' w' h1 h2 h3 => h v' w' (hr.grown h1 h2 h3) h2 h3)
end
theorem bytesV_valsG (l : List UInt8) : bytesV l = byteL.vals l := by
  induction l with
  | nil => rfl
  | cons x r ih =>
    rw [show byteL.vals (x :: r) = [Value.int .u8 x.toNat] ++ byteL.vals r from rfl, ← ih]
    rfl
/-- What leb.Put hands back: a row of its own, that is not empty. -/
def PutG (w : World) (ms : List UInt8) (e : Ending) (w' : World) : Prop := ∃ gp cp, e = .returned (.slice (some ⟨gp, 0, none⟩) ms.length cp) ∧ byteL.Rd w' (.slice (some ⟨gp, 0, none⟩) ms.length cp) ms ∧ w.heap.size ≤ gp ∧ gp < w'.heap.size ∧ Chg [] w w'
theorem PutG.of {w w' : World} {v : Value} {ms : List UInt8} (hne : ms.length ≠ 0) (h : w'.ownsRow w.heap.size 5 1 v ms.length (bytesV ms)) (hc : Chg [] w w') : PutG w ms (.returned v) w' := by
  rw [bytesV_valsG] at h
  have hb : BB w' w.heap.size v ms := h
  obtain ⟨g, cap, rfl, h1, h2, _⟩ := hb.at hne
  exact ⟨g, cap, rfl, hb.rd, h1, h2, hc⟩
theorem put_g (n : Nat) (hn : n < 18446744073709551616) (w : World) : Calls Tryz.prog 16 #[.int .u64 n] w (PutG w (putU n)) := by
  refine (Put_any n w hn).mono ?_
  rintro e w' ⟨v, rfl, ho, hc⟩
  exact PutG.of (Nat.ne_of_gt (putUf_length 9 n).2) ho hc
theorem puts_g (n : Int) (hn : -9223372036854775808 ≤ n ∧ n < 9223372036854775808) (w : World) : Calls Tryz.prog 17 #[.int .i64 n] w (PutG w (putS n)) := by
  refine (PutSigned_any n w hn).mono ?_
  rintro e w' ⟨v, rfl, ho, hc⟩
  exact PutG.of (Nat.ne_of_gt (putSf_length 9 n).2) ho hc
end Go.Proofs.YtkomocgodljecaaGreatDoor
