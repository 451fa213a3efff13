/- Lemmas, laid together: part 25 of 39. Conditions: none but each lemma's own. -/
import Derived.Shelf.LaysM
import Derived.Shelf.Bytes.SlIndexAt
import Derived.Shelf.Bytes.IndexByte
import Derived.Test.YtppbcgffdpdklaaGreatDoorProg
import Derived.Test.YtppbcgffdpdklaaGreatDoorJ5
import Derived.Deep.CutRange
import Derived.StillTailTactics
import Derived.Handy
import Derived.Test.YtppbcgffdpdklaaGreatDoorJ18
import Derived.Lib.Bytealg
import Derived.Lib.AppendStr
import Derived.Laws.BytesString
/- Contracts of the library, proved once in the kit, laid at this seat's program (made by the kit's tools lay-shelf and lay-plain). -/
namespace Go.Proofs
open Go.Shelf
def Tryz.lays187_ren : Go.Shelf.Ren := ⟨fun | 187 => 58 | 255 => 81 | n => n, fun | 37 => 35 | 5 => 5 | 3 => 3 | n => n, fun | n => n⟩
theorem Tryz.lays187 : Go.Proofs.Lays.n187 Tryz.prog Tryz.lays187_ren := {
  mixed := by kernel_rfl
  f187 := Tryz.func58.trans (congrArg some (by kernel_rfl))
  f255 := Tryz.func81.trans (congrArg some (by kernel_rfl))
  t3 := Tryz.underlying3
  a3 := Tryz.isAgg3
  z3 := Tryz.sizeOf3
  v3 := Tryz.zeroValue3
  t5 := Tryz.underlying5
  a5 := Tryz.isAgg5
  z5 := Tryz.sizeOf5
  v5 := Tryz.zeroValue5
  t37 := Tryz.underlying35
  a37 := Tryz.isAgg35
  z37 := Tryz.sizeOf35
  v37 := Tryz.zeroValue35 }
open Go.RowKit Go.Lib in
theorem Tryz.bytes_IndexByte_at (a : Addr) (n c : Nat) (xs : List Int) (cv : Int) (w : World) (hx : xs.length = n) (hc : ∀ i, i < n → w.cell? (a.add i) = some (.int .u8 (xs.getD i 0))) :
    Calls Tryz.prog 58 #[.slice (some a) n c, .int .u8 cv] w fun e w' => e = .returned (.int .i64 (Lib.indexByte (Lib.bytesOf xs) cv.toNat.toUInt8)) ∧ w' = w := Any.bytes_IndexByte_at Tryz.lays187 a n c xs cv w hx hc
end Go.Proofs
/- Rows of bytes; chain.put. -/
namespace Go.Proofs.YtppbcgffdpdklaaGreatDoor
open Go.RowKit
set_option maxRecDepth 100000

def byteL : Lay UInt8 := ⟨1, fun b => [.int .u8 b.toNat], 0, fun _ => rfl, by decide, fun x u hu => by
  simp only [List.mem_singleton] at hu
  subst hu
  rfl⟩
abbrev BB (w : World) (base : Nat) (v : Value) (l : List UInt8) : Prop := byteL.Buf 5 w base v l
theorem Tryz.infoByte : Lay.Info Tryz.prog 35 5 byteL.n 1 := Lay.Info.mk' (z := .int .u8 0) (by kernel_rfl) (by kernel_rfl) rfl
/-- A number's bytes, the lowest first. -/
def leB (n size : Nat) : List UInt8 := (List.range size).map fun i => UInt8.ofNat (n / 2 ^ (8 * i))
theorem leB_succ (n k : Nat) : leB n (k + 1) = leB n k ++ [UInt8.ofNat (n / 2 ^ (8 * k))] := by simp [leB, List.range_succ]
theorem leB_len (n k : Nat) : (leB n k).length = k := by simp [leB]
theorem byte_int (n f : Nat) : (((UInt8.ofNat (n / 2 ^ f)).toNat : Nat) : Int) = (n : Int) / 2 ^ f % 256 := by
  rw [UInt8.toNat_ofNat', Int.natCast_emod, Int.natCast_ediv, Int.natCast_pow]
  rfl
/-- Where a row that grew lies. -/
def Loc (w : World) (v v' : Value) : Prop := v'.ownBlock = v.ownBlock ∨ ∃ k, v'.ownBlock = some k ∧ w.heap.size ≤ k
end Go.Proofs.YtppbcgffdpdklaaGreatDoor
/- Plain: where a text ends; bytes as two kinds of rows. -/
namespace Go.Proofs.YtppbcgffdpdklaaGreatDoor
open Go.RowKit
set_option maxRecDepth 100000

/-- A row of bytes reads as their values. -/
theorem Rd_of_byte {w : World} {v : Value} {l : List UInt8} (h : byteL.Rd w v l) : Rd w v (bytesV l) := by
  obtain ⟨a, n, cap, rfl, hn, hc, hm, hx⟩ := h
  refine ⟨a, n, cap, rfl, by rw [bytesV_length]; exact hn, hc, hm, fun hne => ?_⟩
  obtain ⟨b, off, e, _, hcell⟩ := hx (by rintro rfl; exact hne rfl)
  refine ⟨b, off, e, fun j hj => ?_⟩
  rw [bytesV_length] at hj
  have := hcell j hj 0 (by decide)
  rw [show byteL.n = 1 from rfl, Nat.mul_one, Nat.add_zero] at this
  rw [this, bytesV_get l j hj]
  rfl
theorem Rd_to_byte {w : World} {v : Value} {l : List UInt8} (h : Rd w v (bytesV l)) : byteL.Rd w v l := by
  obtain ⟨a, n, cap, rfl, hn, hc, hm, hx⟩ := h
  rw [bytesV_length] at hn hx
  refine ⟨a, n, cap, rfl, hn, hc, hm, fun hne => ?_⟩
  obtain ⟨b, off, e, hcell⟩ := hx (by
    intro e
    have := congrArg List.length e
    rw [bytesV_length] at this
    exact hne (List.eq_nil_of_length_eq_zero this))
  have hp : 0 < l.length := List.length_pos_iff.2 hne
  refine ⟨b, off, e, ?_, fun j hj c hc => ?_⟩
  · have h0 := hcell 0 hp
    rw [bytesV_get l 0 hp] at h0
    exact World.block_lt_of_cell? w _ h0
  · have hc0 : c = 0 := by have : byteL.n = 1 := rfl; omega
    subst hc0
    rw [show byteL.n = 1 from rfl, Nat.mul_one, Nat.add_zero, hcell j hj, bytesV_get l j hj]
    rfl
/-- Where the next 0 stands. -/
def zeroAt (s : CS) : Int := Lib.indexByte (s.l.drop s.at_) 0
def textOk (s : CS) (most : Int) : Bool := !s.failed && decide (0 ≤ zeroAt s) && decide (zeroAt s ≤ most)
def textS (s : CS) (most : Int) : CS := if textOk s most then ⟨s.l, s.at_ + (zeroAt s).toNat + 1, s.big, false⟩ else failS s
def textL (s : CS) (most : Int) : List UInt8 := if textOk s most then (s.l.drop s.at_).take (zeroAt s).toNat else []
theorem indexByte_lt (l : List UInt8) (c : UInt8) : Lib.indexByte l c < l.length := by
  induction l with
  | nil => simp [Lib.indexByte]
  | cons b l ih =>
    unfold Lib.indexByte
    split
    · simp only [List.length_cons]; omega
    · split
      · simp; omega
      · simp only [List.length_cons]; omega
theorem Rd_takeG {w : World} {a : Option Addr} {n cap k : Nat} {l : List UInt8} (h : Rd w (.slice a n cap) (bytesV l)) (hk : k ≤ l.length) : Rd w (.slice a k cap) (bytesV (l.take k)) := by
  obtain ⟨a', n', cap', he, hn, hnc, hcm, hx⟩ := h
  cases he
  rw [bytesV_length] at hn hx
  refine ⟨_, _, _, rfl, by simp [bytesV]; omega, by omega, hcm, fun hne => ?_⟩
  have hlen : (bytesV (l.take k)).length = k := by simp [bytesV]; omega
  have hk0 : 0 < k := by
    rcases Nat.eq_zero_or_pos k with h0 | h0
    · subst h0; simp [bytesV] at hne
    · exact h0
  obtain ⟨b, off, h, hcell⟩ := hx (by intro e; have : (bytesV l).length = 0 := by rw [e]; rfl
                                      rw [bytesV_length] at this; omega)
  subst h
  refine ⟨_, _, rfl, fun j hj => ?_⟩
  rw [hlen] at hj
  rw [hcell j (by omega), bytesV_get l j (by omega), bytesV_get _ j (by simp; omega)]
  simp [hj]
theorem takeL_list {s : CS} {m : Int} (h : canTake s m = true) : takeL s m = (s.l.drop s.at_).take m.toNat := by unfold takeL; rw [h, if_pos rfl]
end Go.Proofs.YtppbcgffdpdklaaGreatDoor
/- append(b, s...) of a string, onto bytes of the call's own; where it lies. -/
namespace Go.Proofs.YtppbcgffdpdklaaGreatDoor
open Go.RowKit
set_option maxRecDepth 100000

theorem byte_vals (l : List UInt8) : byteL.vals l = l.map fun b => Value.int .u8 b.toNat := by
  induction l with
  | nil => rfl
  | cons b r ih => rw [Lay.vals_cons, ih]; rfl
theorem str_vals (s : ByteArray) : Lib.strCells s = byteL.vals s.data.toList := by rw [byte_vals]; rfl
theorem str_len (s : ByteArray) : s.data.toList.length = s.size := by rw [Array.length_toList]; rfl
theorem Tryz.uStr : Tryz.prog.underlying 9 = some .string := by kernel_rfl
/-- The operation. -/
theorem app_str {w : World} {ops : Array Oper} {rest : List Oper} {o : Oper} {a : Act} {Q : Exit → Act → World → Prop} (hgd : o.guard = none) (sl x : Operand)
    (ho : o.op = .call { callee := .builtin .append, args := #[sl, x], argTypes := #[35, 9] }) (base : Nat) (v : Value) (l : List UInt8) (hs : a.eval sl = v) (hown : BB w base v l)
    (s : ByteArray) (hx : a.eval x = .string s) (hle : l.length + s.size ≤ 140737488355328) (hbase : base ≤ w.heap.size)
    (h : ∀ v' w', BB w' base v' (l ++ s.data.toList) → w.grownBy w' v.ownBlock → (v'.ownBlock = v.ownBlock ∨ v'.ownBlock = some w.heap.size) → wpList Tryz.prog ops Q rest (a.put o.dst v') w') : wpList Tryz.prog ops Q (o :: rest) a w := by
  refine wpList_plain hgd fun K hK => ?_
  obtain ⟨i, z, hi, hz, hz1, hz2, hz3⟩ := Tryz.infoByte.i
  replace hz1 : i.size = 1 := hz1
  have hz' : i.zero = some (.int .u8 0) := by
    have e : (Tryz.prog.info? 5).map (fun i => i.zero) = some (some (.int .u8 0)) := by kernel_rfl
    rw [hi] at e
    simpa using e
  have hy := hown
  unfold BB Lay.Buf at hy
  have hm : l.length + s.size ≤ maxLen := by unfold maxLen; omega
  obtain ⟨v', w', hr, h2, h3, _⟩ := Lib.run_append_own_string (P := Tryz.prog) w base 35 9 o.type 5 i Tryz.infoByte.u Tryz.uStr hi hz' hz1 hz2 v l.length (byteL.vals l) hy s hm hle hbase
  have h4 : BB w' base v' (l ++ s.data.toList) := by
    unfold BB Lay.Buf
    rw [Lay.vals_append, List.length_append, str_len, ← str_vals]
    exact h2
  have h5 : v'.ownBlock = v.ownBlock ∨ v'.ownBlock = some w.heap.size := by
    rcases hy.2 with ⟨rfl, h0⟩ | ⟨g, cap, cur, rfl, hbg, hg, hnc, hcm, hcs, htake⟩
    · by_cases hm0 : s.size = 0
      · have hb := h2.2
        rcases hb with ⟨rfl, _⟩ | ⟨g, cap, cur, rfl, _, _, _, _, _, _⟩
        · exact .inl rfl
        · exfalso
          have hf := Lib.run_firstCells_string (P := Tryz.prog) w 1 s
          have hn : Lib.strCells s = [] := List.eq_nil_of_length_eq_zero (by rw [Lib.strCells_length]; exact hm0)
          rw [hm0, hn] at hf
          simp [Builtin.append_, run_underlying Tryz.infoByte.u, run_underlying Tryz.uStr, sizeOf, typeInfo, hi, hz1, Builtin.lenOf, hm0, hf] at hr
      · have hq := run_append_nil_string (P := Tryz.prog) w 35 9 o.type 5 i (.int .u8 0) Tryz.infoByte.u Tryz.uStr hi hz' s (by omega) (by omega) (by rw [hz2]; omega)
        rw [hq] at hr
        cases hr
        exact .inr rfl
    · by_cases hroom : l.length + s.size ≤ cap
      · have hcs' : cur.size = cap := by rw [show byteL.n = 1 from rfl, Nat.mul_one] at hcs; exact hcs
        have hq := Lib.run_append_room_string (P := Tryz.prog) w 35 9 o.type 5 i Tryz.infoByte.u Tryz.uStr hi hz1 g l.length cap cur hg s hroom (by omega)
        rw [hq] at hr
        cases hr
        exact .inl rfl
      · have hxl : (byteL.vals l).length = l.length := by rw [Lay.vals_len]; exact Nat.mul_one _
        have holds : ∀ j u, (byteL.vals l)[j]? = some u → w.cell? ((⟨g, 0, none⟩ : Addr).add j) = some u := hy.cells (g := g) rfl
        have hq := Lib.run_append_grow_string (P := Tryz.prog) w 35 9 o.type 5 i (.int .u8 0) Tryz.infoByte.u Tryz.uStr hi hz' ⟨g, 0, none⟩ l.length cap (byteL.vals l) (by rw [hz1, Nat.mul_one]; exact hxl) holds s (by omega) (by omega) (by rw [hz2]; exact growslice_fits (by omega) (by omega))
        rw [hq] at hr
        cases hr
        exact .inr rfl
  unfold Oper.wp execOp
  simp only [ho, resolve, invoke, builtin, Sem.run_bind, Sem.run_pure, Result.andThen_ok, List.map_toArray, List.map_cons, List.map_nil, hs, hx, hr]
  exact hK _ _ (h v' w' h4 h3 h5)
end Go.Proofs.YtppbcgffdpdklaaGreatDoor
/- Bytes as a string; a part of a row of bytes. -/
namespace Go.Proofs.YtppbcgffdpdklaaGreatDoor
open Go.RowKit
set_option maxRecDepth 100000

theorem foldl_push' (ns : List Int) (s : ByteArray) : ns.foldl (fun r n => r.push (UInt8.ofNat n.toNat)) s = ⟨s.data ++ (ns.map fun n => UInt8.ofNat n.toNat).toArray⟩ := by
  induction ns generalizing s with
  | nil => simp
  | cons n r ih => simp only [List.foldl_cons, ih]; simp [ByteArray.push]
/-- string(v), v a slice of bytes. -/
theorem run_strB {w : World} {a : Option Addr} {n cap : Nat} {l : List UInt8} (h : byteL.Rd w (.slice a n cap) l) :
    (convert 35 9 (.slice a n cap)).run Tryz.prog w = .ok (.string ⟨l.toArray⟩) w := by
  rw [run_convert_bytes_string (P := Tryz.prog) w 35 9 5 a n cap Tryz.underlying35 Tryz.underlying5 Tryz.underlying9]
  cases a with
  | none =>
    obtain ⟨a', n', cap', he, hn, hnc, hcm, hx⟩ := h
    cases he
    have hnil : l = [] := by
      cases l with
      | nil => rfl
      | cons x r => obtain ⟨b, off, h, _⟩ := hx (by simp); cases h
    subst hnil
    subst hn
    rfl
  | some ad =>
    obtain ⟨hn, hc⟩ := Lay.Rd.cells h
    subst hn
    have hload : (loadCells ad l.length).run Tryz.prog w = .ok ((l.map fun x => (x.toNat : Int)).map (Value.int .u8)).toArray w := by
      have hxs : (l.map fun x => (x.toNat : Int)).map (Value.int .u8) = byteL.vals l := by rw [byte_vals]; simp [Function.comp_def]
      rw [hxs]
      have := run_loadCells_list (P := Tryz.prog) (w := w) ad (byteL.vals l) (fun j u hu => hc j u hu)
      rw [Lay.vals_len, show byteL.n = 1 from rfl, Nat.mul_one] at this
      exact this
    rw [run_bytesToString w ad l.length cap _ hload, foldl_push']
    have e : (l.map fun x => (x.toNat : Int)).map (fun n => UInt8.ofNat n.toNat) = l := by
      rw [List.map_map]
      conv => rhs; rw [← List.map_id l]
      refine List.map_congr_left fun x _ => ?_
      simp
    rw [e]
    simp
/-- A part of a row. -/
theorem Rd_sub {w : World} {b off n cap : Nat} {l : List UInt8} (h : byteL.Rd w (.slice (some ⟨b, off, none⟩) n cap) l) (k m c : Nat) (hk : k + m ≤ l.length) (hm : m ≤ c) (hc : c ≤ maxLen) : byteL.Rd w (.slice (some ⟨b, off + k, none⟩) m c) ((l.drop k).take m) := by
  obtain ⟨a', n', cap', he, hn, _, _, hx⟩ := h
  cases he
  have hl : ((l.drop k).take m).length = m := by rw [List.length_take, List.length_drop]; omega
  refine ⟨_, _, _, rfl, hl.symm, hm, hc, fun hne => ?_⟩
  have hne2 : l ≠ [] := by rintro rfl; simp at hne
  obtain ⟨b', off', e, hb, hcell⟩ := hx hne2
  cases e
  refine ⟨_, _, rfl, hb, fun j hj c hc => ?_⟩
  rw [hl] at hj
  have := hcell (k + j) (by omega) c hc
  have hg : ((l.drop k).take m).getD j byteL.d = l.getD (k + j) byteL.d := by
    simp [List.getD_eq_getElem?_getD, List.getElem?_drop, hj]
  rw [hg, ← this]
  congr 2
  show off + k + j * 1 + c = off + (k + j) * 1 + c
  omega
end Go.Proofs.YtppbcgffdpdklaaGreatDoor
