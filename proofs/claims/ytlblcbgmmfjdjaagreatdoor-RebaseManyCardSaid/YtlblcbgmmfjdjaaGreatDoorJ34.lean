/- Lemmas, laid together: part 34 of 35. Conditions: none but each lemma's own. -/
import Derived.Test.YtlblcbgmmfjdjaaGreatDoorJ22
import Derived.Test.YtlblcbgmmfjdjaaGreatDoorJ7
import Derived.Handy
import Derived.Lib.Bytealg
import Derived.Lib.AppendStr
import Derived.Laws.BytesString
import Derived.Test.YtlblcbgmmfjdjaaGreatDoorJ33
/- Plain: where a text ends; bytes as two kinds of rows. -/
namespace Go.Proofs.YtlblcbgmmfjdjaaGreatDoor
open Go.RowKit
set_option maxRecDepth 100000

/-- A row of bytes reads as their values. -/
theorem Rd_of_byte {w : World} {v : Value} {l : List UInt8} (h : byteL.Rd w v l) : Rd w v (bytesV l) := by
  obtain ⟨a, n, cap, rfl, hn, hc, hm, hx⟩ := h
  refine ⟨a, n, cap, rfl, by rw [bytesV_length]; exact hn, hc, hm, fun hne => ?_⟩
  obtain ⟨b, off, e, _, hcell⟩ := hx (by rintro rfl; exact hne rfl)
  refine ⟨b, off, e, fun j hj => ?_⟩
  rw [bytesV_length] at hj
  have := hcell j hj 0 (by decide)
  rw [show byteL.n = 1 from rfl, Nat.mul_one, Nat.add_zero] at this
  rw [this, bytesV_get l j hj]
  rfl
theorem Rd_to_byte {w : World} {v : Value} {l : List UInt8} (h : Rd w v (bytesV l)) : byteL.Rd w v l := by
  obtain ⟨a, n, cap, rfl, hn, hc, hm, hx⟩ := h
  rw [bytesV_length] at hn hx
  refine ⟨a, n, cap, rfl, hn, hc, hm, fun hne => ?_⟩
  obtain ⟨b, off, e, hcell⟩ := hx (by
    intro e
    have := congrArg List.length e
    rw [bytesV_length] at this
    exact hne (List.eq_nil_of_length_eq_zero this))
  have hp : 0 < l.length := List.length_pos_iff.2 hne
  refine ⟨b, off, e, ?_, fun j hj c hc => ?_⟩
  · have h0 := hcell 0 hp
    rw [bytesV_get l 0 hp] at h0
    exact World.block_lt_of_cell? w _ h0
  · have hc0 : c = 0 := by have : byteL.n = 1 := rfl; omega
    subst hc0
    rw [show byteL.n = 1 from rfl, Nat.mul_one, Nat.add_zero, hcell j hj, bytesV_get l j hj]
    rfl
/-- Where the next 0 stands. -/
def zeroAt (s : CS) : Int := Lib.indexByte (s.l.drop s.at_) 0
def textOk (s : CS) (most : Int) : Bool := !s.failed && decide (0 ≤ zeroAt s) && decide (zeroAt s ≤ most)
def textS (s : CS) (most : Int) : CS := if textOk s most then ⟨s.l, s.at_ + (zeroAt s).toNat + 1, s.big, false⟩ else failS s
def textL (s : CS) (most : Int) : List UInt8 := if textOk s most then (s.l.drop s.at_).take (zeroAt s).toNat else []
theorem indexByte_lt (l : List UInt8) (c : UInt8) : Lib.indexByte l c < l.length := by
  induction l with
  | nil => simp [Lib.indexByte]
  | cons b l ih =>
    unfold Lib.indexByte
    split
    · simp only [List.length_cons]; omega
    · split
      · simp; omega
      · simp only [List.length_cons]; omega
theorem Rd_takeG {w : World} {a : Option Addr} {n cap k : Nat} {l : List UInt8} (h : Rd w (.slice a n cap) (bytesV l)) (hk : k ≤ l.length) : Rd w (.slice a k cap) (bytesV (l.take k)) := by
  obtain ⟨a', n', cap', he, hn, hnc, hcm, hx⟩ := h
  cases he
  rw [bytesV_length] at hn hx
  refine ⟨_, _, _, rfl, by simp [bytesV]; omega, by omega, hcm, fun hne => ?_⟩
  have hlen : (bytesV (l.take k)).length = k := by simp [bytesV]; omega
  have hk0 : 0 < k := by
    rcases Nat.eq_zero_or_pos k with h0 | h0
    · subst h0; simp [bytesV] at hne
    · exact h0
  obtain ⟨b, off, h, hcell⟩ := hx (by intro e; have : (bytesV l).length = 0 := by rw [e]; rfl
                                      rw [bytesV_length] at this; omega)
  subst h
  refine ⟨_, _, rfl, fun j hj => ?_⟩
  rw [hlen] at hj
  rw [hcell j (by omega), bytesV_get l j (by omega), bytesV_get _ j (by simp; omega)]
  simp [hj]
theorem takeL_list {s : CS} {m : Int} (h : canTake s m = true) : takeL s m = (s.l.drop s.at_).take m.toNat := by unfold takeL; rw [h, if_pos rfl]
end Go.Proofs.YtlblcbgmmfjdjaaGreatDoor
/- append(b, s...) of a string, onto bytes of the call's own; where it lies. -/
namespace Go.Proofs.YtlblcbgmmfjdjaaGreatDoor
open Go.RowKit
set_option maxRecDepth 100000

theorem byte_vals (l : List UInt8) : byteL.vals l = l.map fun b => Value.int .u8 b.toNat := by
  induction l with
  | nil => rfl
  | cons b r ih => rw [Lay.vals_cons, ih]; rfl
theorem str_vals (s : ByteArray) : Lib.strCells s = byteL.vals s.data.toList := by rw [byte_vals]; rfl
theorem str_len (s : ByteArray) : s.data.toList.length = s.size := by rw [Array.length_toList]; rfl
theorem Tryz.uStr : Tryz.prog.underlying 9 = some .string := by kernel_rfl
/-- The operation. -/
theorem app_str {w : World} {ops : Array Oper} {rest : List Oper} {o : Oper} {a : Act} {Q : Exit → Act → World → Prop} (hgd : o.guard = none) (sl x : Operand)
    (ho : o.op = .call { callee := .builtin .append, args := #[sl, x], argTypes := #[35, 9] }) (base : Nat) (v : Value) (l : List UInt8) (hs : a.eval sl = v) (hown : BB w base v l)
    (s : ByteArray) (hx : a.eval x = .string s) (hle : l.length + s.size ≤ 140737488355328) (hbase : base ≤ w.heap.size)
    (h : ∀ v' w', BB w' base v' (l ++ s.data.toList) → w.grownBy w' v.ownBlock → (v'.ownBlock = v.ownBlock ∨ v'.ownBlock = some w.heap.size) → wpList Tryz.prog ops Q rest (a.put o.dst v') w') : wpList Tryz.prog ops Q (o :: rest) a w := by
  refine wpList_plain hgd fun K hK => ?_
  obtain ⟨i, z, hi, hz, hz1, hz2, hz3⟩ := Tryz.infoByte.i
  replace hz1 : i.size = 1 := hz1
  have hz' : i.zero = some (.int .u8 0) := by
    have e : (Tryz.prog.info? 5).map (fun i => i.zero) = some (some (.int .u8 0)) := by kernel_rfl
    rw [hi] at e
    simpa using e
  have hy := hown
  unfold BB Lay.Buf at hy
  have hm : l.length + s.size ≤ maxLen := by unfold maxLen; omega
  obtain ⟨v', w', hr, h2, h3, _⟩ := Lib.run_append_own_string (P := Tryz.prog) w base 35 9 o.type 5 i Tryz.infoByte.u Tryz.uStr hi hz' hz1 hz2 v l.length (byteL.vals l) hy s hm hle hbase
  have h4 : BB w' base v' (l ++ s.data.toList) := by
    unfold BB Lay.Buf
    rw [Lay.vals_append, List.length_append, str_len, ← str_vals]
    exact h2
  have h5 : v'.ownBlock = v.ownBlock ∨ v'.ownBlock = some w.heap.size := by
    rcases hy.2 with ⟨rfl, h0⟩ | ⟨g, cap, cur, rfl, hbg, hg, hnc, hcm, hcs, htake⟩
    · by_cases hm0 : s.size = 0
      · have hb := h2.2
        rcases hb with ⟨rfl, _⟩ | ⟨g, cap, cur, rfl, _, _, _, _, _, _⟩
        · exact .inl rfl
        · exfalso
          have hf := Lib.run_firstCells_string (P := Tryz.prog) w 1 s
          have hn : Lib.strCells s = [] := List.eq_nil_of_length_eq_zero (by rw [Lib.strCells_length]; exact hm0)
          rw [hm0, hn] at hf
          simp [Builtin.append_, run_underlying Tryz.infoByte.u, run_underlying Tryz.uStr, sizeOf, typeInfo, hi, hz1, Builtin.lenOf, hm0, hf] at hr
      · have hq := run_append_nil_string (P := Tryz.prog) w 35 9 o.type 5 i (.int .u8 0) Tryz.infoByte.u Tryz.uStr hi hz' s (by omega) (by omega) (by rw [hz2]; omega)
        rw [hq] at hr
        cases hr
        exact .inr rfl
    · by_cases hroom : l.length + s.size ≤ cap
      · have hcs' : cur.size = cap := by rw [show byteL.n = 1 from rfl, Nat.mul_one] at hcs; exact hcs
        have hq := Lib.run_append_room_string (P := Tryz.prog) w 35 9 o.type 5 i Tryz.infoByte.u Tryz.uStr hi hz1 g l.length cap cur hg s hroom (by omega)
        rw [hq] at hr
        cases hr
        exact .inl rfl
      · have hxl : (byteL.vals l).length = l.length := by rw [Lay.vals_len]; exact Nat.mul_one _
        have holds : ∀ j u, (byteL.vals l)[j]? = some u → w.cell? ((⟨g, 0, none⟩ : Addr).add j) = some u := hy.cells (g := g) rfl
        have hq := Lib.run_append_grow_string (P := Tryz.prog) w 35 9 o.type 5 i (.int .u8 0) Tryz.infoByte.u Tryz.uStr hi hz' ⟨g, 0, none⟩ l.length cap (byteL.vals l) (by rw [hz1, Nat.mul_one]; exact hxl) holds s (by omega) (by omega) (by rw [hz2]; exact growslice_fits (by omega) (by omega))
        rw [hq] at hr
        cases hr
        exact .inr rfl
  unfold Oper.wp execOp
  simp only [ho, resolve, invoke, builtin, Sem.run_bind, Sem.run_pure, Result.andThen_ok, List.map_toArray, List.map_cons, List.map_nil, hs, hx, hr]
  exact hK _ _ (h v' w' h4 h3 h5)
end Go.Proofs.YtlblcbgmmfjdjaaGreatDoor
/- Bytes as a string; a part of a row of bytes. -/
namespace Go.Proofs.YtlblcbgmmfjdjaaGreatDoor
open Go.RowKit
set_option maxRecDepth 100000

theorem foldl_push' (ns : List Int) (s : ByteArray) : ns.foldl (fun r n => r.push (UInt8.ofNat n.toNat)) s = ⟨s.data ++ (ns.map fun n => UInt8.ofNat n.toNat).toArray⟩ := by
  induction ns generalizing s with
  | nil => simp
  | cons n r ih => simp only [List.foldl_cons, ih]; simp [ByteArray.push]
/-- string(v), v a slice of bytes. -/
theorem run_strB {w : World} {a : Option Addr} {n cap : Nat} {l : List UInt8} (h : byteL.Rd w (.slice a n cap) l) :
    (convert 35 9 (.slice a n cap)).run Tryz.prog w = .ok (.string ⟨l.toArray⟩) w := by
  rw [run_convert_bytes_string (P := Tryz.prog) w 35 9 5 a n cap Tryz.underlying35 Tryz.underlying5 Tryz.underlying9]
  cases a with
  | none =>
    obtain ⟨a', n', cap', he, hn, hnc, hcm, hx⟩ := h
    cases he
    have hnil : l = [] := by
      cases l with
      | nil => rfl
      | cons x r => obtain ⟨b, off, h, _⟩ := hx (by simp); cases h
    subst hnil
    subst hn
    rfl
  | some ad =>
    obtain ⟨hn, hc⟩ := Lay.Rd.cells h
    subst hn
    have hload : (loadCells ad l.length).run Tryz.prog w = .ok ((l.map fun x => (x.toNat : Int)).map (Value.int .u8)).toArray w := by
      have hxs : (l.map fun x => (x.toNat : Int)).map (Value.int .u8) = byteL.vals l := by rw [byte_vals]; simp [Function.comp_def]
      rw [hxs]
      have := run_loadCells_list (P := Tryz.prog) (w := w) ad (byteL.vals l) (fun j u hu => hc j u hu)
      rw [Lay.vals_len, show byteL.n = 1 from rfl, Nat.mul_one] at this
      exact this
    rw [run_bytesToString w ad l.length cap _ hload, foldl_push']
    have e : (l.map fun x => (x.toNat : Int)).map (fun n => UInt8.ofNat n.toNat) = l := by
      rw [List.map_map]
      conv => rhs; rw [← List.map_id l]
      refine List.map_congr_left fun x _ => ?_
      simp
    rw [e]
    simp
/-- A part of a row. -/
theorem Rd_sub {w : World} {b off n cap : Nat} {l : List UInt8} (h : byteL.Rd w (.slice (some ⟨b, off, none⟩) n cap) l) (k m c : Nat) (hk : k + m ≤ l.length) (hm : m ≤ c) (hc : c ≤ maxLen) : byteL.Rd w (.slice (some ⟨b, off + k, none⟩) m c) ((l.drop k).take m) := by
  obtain ⟨a', n', cap', he, hn, _, _, hx⟩ := h
  cases he
  have hl : ((l.drop k).take m).length = m := by rw [List.length_take, List.length_drop]; omega
  refine ⟨_, _, _, rfl, hl.symm, hm, hc, fun hne => ?_⟩
  have hne2 : l ≠ [] := by rintro rfl; simp at hne
  obtain ⟨b', off', e, hb, hcell⟩ := hx hne2
  cases e
  refine ⟨_, _, rfl, hb, fun j hj c hc => ?_⟩
  rw [hl] at hj
  have := hcell (k + j) (by omega) c hc
  have hg : ((l.drop k).take m).getD j byteL.d = l.getD (k + j) byteL.d := by
    simp [List.getD_eq_getElem?_getD, List.getElem?_drop, hj]
  rw [hg, ← this]
  congr 2
  show off + k + j * 1 + c = off + (k + j) * 1 + c
  omega
end Go.Proofs.YtlblcbgmmfjdjaaGreatDoor
/- clevislaw13.known. -/
namespace Go.Proofs.YtlblcbgmmfjdjaaGreatDoor
open Go.RowKit
set_option maxRecDepth 100000

/-- makeSlice of so many bytes. -/
theorem makeB (n : Nat) (hn : n ≤ 1048576) : ∃ o, ∀ w : World, (Instr.makeSlice 35 (.int .i64 (n : Int)) (.int .i64 (n : Int))).run Tryz.prog w = .ok (.slice (some ⟨w.heap.size, 0, none⟩) n n) (w.alloc o) ∧ BB (w.alloc o) w.heap.size (.slice (some ⟨w.heap.size, 0, none⟩) n n) (List.replicate n 0) := by
  obtain ⟨i, z, hi, hz, hz1, hz2, hz3⟩ := Tryz.infoByte.i
  have hz' : i.zero = some (.int .u8 0) := by
    have e : (Tryz.prog.info? 5).map (fun i => i.zero) = some (some (.int .u8 0)) := by kernel_rfl
    rw [hi] at e
    simpa using e
  have hb : (i.bytes : Int) * (n : Int) ≤ 281474976710656 := by rw [hz2]; omega
  have hr := fun w => run_make (P := Tryz.prog) w 35 5 i _ Tryz.infoByte.u hi hz' .i64 .i64 n n (by omega) (by omega) hb (by omega)
  simp only [Int.toNat_natCast] at hr
  refine ⟨_, fun w => ⟨hr w, Lay.Buf.of_heap (heap_alloc_eq w _) ?_ (by simp) (by simp; unfold maxLen; omega) (Nat.le_refl _)⟩⟩
  rw [hz1]
  show (madeCells #[Value.int .u8 0] (n * 1)).toList = _
  apply List.ext_getElem?
  intro j
  by_cases hj : j < n
  · have hv := Lay.vals_get (L := byteL) (List.replicate n 0) j 0 (by rw [List.length_replicate]; exact hj) (by decide)
    rw [show byteL.n = 1 from rfl, Nat.mul_one, Nat.add_zero] at hv
    have hg : (List.replicate n (0 : UInt8)).getD j byteL.d = 0 := by simp [List.getD_eq_getElem?_getD, hj]
    rw [hv, hg]
    simp [madeCells, hj, Nat.mod_one]
    rfl
  · rw [List.getElem?_eq_none (by simp [madeCells]; omega), List.getElem?_eq_none (by rw [Lay.vals_len, List.length_replicate]; show n * 1 ≤ j; omega)]
theorem rep_get (n j : Nat) (hj : j < n) : (List.replicate n (0 : UInt8)).getD j byteL.d = 0 := by simp [List.getD_eq_getElem?_getD, hj]
theorem slice13_len : slice13.length = 4112 := by unfold slice13; rw [List.length_append, List.length_replicate]; rfl
theorem slv_eq {so : SlV} {a : Option Addr} {n c : Nat} (h : so.v = .slice a n c) : so = ⟨a, n, c⟩ := by
  obtain ⟨a', n', c'⟩ := so
  unfold SlV.v at h
  injection h with h1 h2 h3
  dsimp only at h1 h2 h3
  rw [h1, h2, h3]
theorem slice13_set : ((List.replicate 4112 (0 : UInt8)).set 4096 7).set 4104 9 = slice13 := by
  rw [show (4112 : Nat) = 4096 + 16 from rfl, ← List.replicate_append_replicate, List.set_append_right _ _ (by simp), List.set_append_right _ _ (by simp), List.length_replicate]
  rfl
def rb0 (slv : SlV) (m : Img) : Rdr := { Rdr.zero with sl := slv, m := m }
set_option maxHeartbeats 4000000 in
theorem known13 (w : World) (hw : Env w) : Calls Tryz.prog 4 #[] w fun e w' => e = .returned (.bool true) ∧ Chg [] w w' := by
  obtain ⟨o, hmk⟩ := makeB 4112 (by decide)
  have rM : ∀ w : World, (Instr.makeSlice 35 (.int .i64 4112) (.int .i64 4112)).run Tryz.prog w = .ok (.slice (some ⟨w.heap.size, 0, none⟩) 4112 4112) (w.alloc o) := fun w => (hmk w).1
  have BM := Lib.hid ((hmk w).2)
  have Hw := Lib.hid hw
  have Hmk := Lib.hid hmk
  clear hw hmk
  go_enter Tryz.func4, Tryz.ntmps4
  go_upto_region 2 with fail
  refine Lay.with_world (fun W => BB W w.heap.size (.slice (some ⟨w.heap.size, 0, none⟩) 4112 4112) (List.replicate 4112 0) ∧ Chg [] w W) ⟨BM.out, (Chg.refl _ _).alloc _⟩ (fun W1 hW => ?_)
  obtain ⟨b1, c1⟩ := hW
  have B1 := Lib.hid b1
  have C1 := Lib.hid c1
  clear b1 c1
  generalize hg : w.heap.size = g
  rw [hg] at B1
  obtain ⟨g', cap', he, _, _, _, _, _, hfz, hIn⟩ := B1.out.at (by rw [List.length_replicate]; decide)
  cases he
  have hz : ∀ j, j < 4112 → W1.cell? ⟨g, j, none⟩ = some (.int .u8 0) := fun j hj => by
    have := hIn j (by rw [List.length_replicate]; exact hj) 0 (by decide)
    rw [show byteL.n = 1 from rfl, Nat.mul_one, Nat.add_zero] at this
    rw [this, rep_get 4112 j hj]
    rfl
  have y1 := hz 4096 (by decide)
  have y2 := hz 4104 (by decide)
  have z1 := hfz 4096
  have z2 := hfz 4104
  clear hz hfz hIn
  go_upto_region 3 with fail
  refine Lay.with_world (fun W => BB W g (.slice (some ⟨g, 0, none⟩) 4112 4112) slice13 ∧ Chg [] w W) ⟨?_, ?_⟩ (fun W2 hW => ?_)
  · have h1 := B1.out.set rfl 4096 (by rw [List.length_replicate]; decide) 0 (by decide) (.int .u8 7) 7 rfl
    have h2 := h1.set rfl 4104 (by rw [List.length_set, List.length_replicate]; decide) 0 (by decide) (.int .u8 9) 9 rfl
    rw [slice13_set] at h2
    exact h2
  · exact (C1.out.setCell _ _ (.inr (by show w.heap.size ≤ g; omega))).setCell _ _ (.inr (by show w.heap.size ≤ g; omega))
  obtain ⟨b2, c2⟩ := hW
  have B2 := Lib.hid b2
  have C2 := Lib.hid c2
  clear b2 c2
  clear y1 y2 z1 z2 B1 C1
  have hg2 : g < W2.heap.size := (B2.out.lt g rfl).2
  go_wp2_with fail
  refine (two13_any W2).mono ?_
  rintro e W3 ⟨sb, rfl, hs, hc, hsb⟩
  have C3 := Lib.hid (C2.out.then hc)
  have B3 := Lib.hid (B2.out.pure hc)
  have S3 := Lib.hid hs
  clear hs
  clear hc
  have D3 : Hid (DIn (W3.alloc (.cells #[.int .u8 17, .int .u8 33, .int .u8 0, .int .u8 82, .int .u8 0] 5)) (rb0 ⟨some ⟨g, 0, none⟩, 4112, 4112⟩ (twoImg ⟨some ⟨sb, 0, none⟩, 2, 2⟩)) twoSegs slice13) := by
    refine Lib.hid ?_
    refine ⟨twoSegsB, S3.out.frame ((Chg.refl _ _).alloc _), by rw [slice13_len]; decide, B3.out.rd.frame ((Chg.refl _ _).alloc _), fun k hk => ?_, fun k hk => ?_⟩
    · cases hk
      exact Nat.lt_of_lt_of_le hsb ((Chg.refl [] W3).alloc _).size
    · cases hk
      exact Nat.lt_of_lt_of_le (B3.out.lt g rfl).2 ((Chg.refl [] W3).alloc _).size
  go_wp2_with fail
  refine (Decode_k1 _ (Hw.out.frame (C3.out.alloc _) (by simp)) ⟨some ⟨g, 0, none⟩, 4112, 4112⟩ (twoImg ⟨some ⟨sb, 0, none⟩, 2, 2⟩) D3.out _ (Rd_of_byte (Lay.Rd.of_heap (ls := kB) (heap_alloc_eq _ _) rfl rfl (by decide)))).mono ?_
  rintro e W4 ⟨so, rfl, hc, hb⟩
  have C4 : Hid (Chg [] w W4) := Lib.hid ((C3.out.alloc _).then hc)
  have B4 : Hid (BB W4 g (.slice (some ⟨g, 0, none⟩) 4112 4112) slice13) := Lib.hid (B3.out.pure (((Chg.refl [] W3).alloc _).then hc))
  obtain ⟨g2, cap2, he, _, _, _, _, _, _, _⟩ := hb.at (by decide)
  obtain rfl := slv_eq he
  rw [show known13l.length = 2 from rfl] at hb ⊢
  have R4 : Hid (fxl.Rd W4 (.slice (some ⟨g2, 0, none⟩) 2 cap2) known13l) := Lib.hid (hb.rd)
  clear hb he hc D3 S3 B3 C3 hsb
  unfold SlV.v
  go_wp2_with fail
  refine (two13_any W4).mono ?_
  rintro e W5 ⟨sb5, rfl, _, hc, _⟩
  have C5 := Lib.hid (C4.out.then hc)
  have R5 := Lib.hid (R4.out.frame hc)
  clear hc R4
  go_wp2_with fail
  refine (Decode_k2 _ (Hw.out.frame (C5.out.alloc _) (by simp)) ⟨some ⟨g, 0, none⟩, 4112, 4112⟩ (twoImg ⟨some ⟨sb5, 0, none⟩, 2, 2⟩) _ (Rd_of_byte (Lay.Rd.of_heap (ls := [81]) (heap_alloc_eq _ _) rfl rfl (by decide)))).mono ?_
  rintro e W6 ⟨rfl, hc⟩
  have C6 := Lib.hid ((C5.out.alloc _).then hc)
  have R6 := Lib.hid (R5.out.frame (((Chg.refl [] W5).alloc _).then hc))
  clear hc R5
  go_wp2_with fail
  refine (two13_any W6).mono ?_
  rintro e W7 ⟨sb7, rfl, hs, hc, _⟩
  have C7 := Lib.hid (C6.out.then hc)
  have R7 := Lib.hid (R6.out.frame hc)
  have S7 := Lib.hid hs
  clear hs
  clear hc R6
  go_wp2_with fail
  refine (Make_known (twoImg ⟨some ⟨sb7, 0, none⟩, 2, 2⟩) sb7 rfl (.slice (some ⟨g2, 0, none⟩) 2 cap2) W7 S7.out (fx_ofL R7.out)).mono ?_
  rintro e W8 ⟨s8, rfl, hb, hc⟩
  have C8 := Lib.hid (C7.out.then hc)
  have hcl := (R7.out.frame hc).cells.2
  have f0 : W8.cell? ⟨g2, 0, none⟩ = some (.int .u64 4096) := hcl 0 _ rfl
  have f2 : W8.cell? ⟨g2, 2, none⟩ = some (.int .u64 7) := hcl 2 _ rfl
  have f7 : W8.cell? ⟨g2, 7, none⟩ = some (.int .u64 4104) := hcl 7 _ rfl
  have f9 : W8.cell? ⟨g2, 9, none⟩ = some (.int .u64 9) := hcl 9 _ rfl
  obtain ⟨a8, c8, he, _⟩ := hb.rd.shape
  obtain rfl := slv_eq he
  have hs1 := run_strB hb.rd
  rw [show kB.length = 5 from rfl] at hs1 ⊢
  rw [show (⟨kB.toArray⟩ : ByteArray) = ⟨#[17, 33, 0, 82, 0]⟩ from rfl] at hs1
  clear hb hc hcl R7 S7 he
  unfold SlV.v
  go_wp2
  go_ret
  exact ⟨rfl, C8.out⟩
end Go.Proofs.YtlblcbgmmfjdjaaGreatDoor
