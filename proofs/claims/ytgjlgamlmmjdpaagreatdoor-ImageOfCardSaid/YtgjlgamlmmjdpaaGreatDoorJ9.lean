/- Lemmas, laid together: part 9 of 43. Conditions: none but each lemma's own. -/
import Derived.Test.YtgjlgamlmmjdpaaGreatDoorJ6
import Derived.Test.YtgjlgamlmmjdpaaGreatDoorJ7
import Derived.Test.YtgjlgamlmmjdpaaGreatDoorJ8
import Derived.Shelf.LaysM
import Derived.Shelf.Bytes.SlIndexAt
import Derived.Shelf.Bytes.IndexByte
import Derived.Test.YtgjlgamlmmjdpaaGreatDoorProg
import Derived.Laws.BytesString
import Derived.StillTailTactics
import Derived.Deep.QuietTactic
import Derived.BigQuiet
/- load.open. -/
namespace Go.Proofs.YtgjlgamlmmjdpaaGreatDoor
open Go.RowKit
set_option maxRecDepth 100000

/-- A number of four bytes that stands at a place. -/
def n4 (l : List UInt8) (p : Nat) : Nat := leNum ((l.drop p).take 4)
theorem n4_lt (l : List UInt8) (p : Nat) : n4 l p < 4294967296 := by
  have h := leNum_lt ((l.drop p).take 4)
  have h2 : ((l.drop p).take 4).length ≤ 4 := by rw [List.length_take]; omega
  have h3 : 256 ^ ((l.drop p).take 4).length ≤ 256 ^ 4 := Nat.pow_le_pow_right (by decide) h2
  unfold n4
  omega
theorem Known_any (c : Int) (w : World) : Calls Tryz.prog 39 #[.int .u32 c] w fun e w' => e = .returned (.bool (!decide (leastF c = 0))) ∧ Chg [] w w' := by
  by_cases h : leastF c = 0
  · have HF : Hid (sizesM c = none) := Lib.hid (by unfold sizesM; rw [if_pos h])
    rw [decide_eq_true h]
    have H := Lib.hid h
    clear h
    go_enter Tryz.func39, Tryz.ntmps39
    go_wp2_with fail
    refine (sizes_any w).mono ?_
    rintro e W1 ⟨b, rfl, _, hm, hc⟩
    have Hm := Lib.hid hm
    have Hc := Lib.hid hc
    clear hm hc
    go_wp2_with ((with_reducible refine get2N Tryz.tSzs Hm.out c HF.out ?_ ?_ ?_); exact rfl; exact rfl; refine Hid.out ?_)
    refine Lib.hid ?_
    go_wp2
    go_ret
    exact ⟨rfl, Hc.out⟩
  · have HF : Hid (sizesM c = some (.int .i64 (leastF c))) := Lib.hid (by unfold sizesM; rw [if_neg h])
    rw [decide_eq_false h]
    have H := Lib.hid h
    clear h
    go_enter Tryz.func39, Tryz.ntmps39
    go_wp2_with fail
    refine (sizes_any w).mono ?_
    rintro e W1 ⟨b, rfl, _, hm, hc⟩
    have Hm := Lib.hid hm
    have Hc := Lib.hid hc
    clear hm hc
    go_wp2_with ((with_reducible refine get2S Tryz.tSzs Hm.out c (.int .i64 (leastF c)) HF.out ?_ ?_ ?_); exact rfl; exact rfl; refine Hid.out ?_)
    refine Lib.hid ?_
    go_wp2
    go_ret
    exact ⟨rfl, Hc.out⟩
theorem sizesM_getD (c : Int) : (sizesM c).getD (.int .i64 0) = .int .i64 (leastF c) := by
  unfold sizesM
  by_cases h : leastF c = 0
  · rw [if_pos h, h]; rfl
  · rw [if_neg h]; rfl
theorem leastF_le (c : Int) : 0 ≤ leastF c ∧ leastF c ≤ 72 := by
  unfold leastF
  (repeat' split) <;> omega
theorem num4 (l : List UInt8) (p : Nat) (h : p + 4 ≤ l.length) : numberV ⟨l, p, false, false⟩ 4 = n4 l p ∧ numberS ⟨l, p, false, false⟩ 4 = ⟨l, p + 4, false, false⟩ := by
  have hc : canTake ⟨l, p, false, false⟩ 4 = true := canTake_of rfl (by decide) (by dsimp only; omega)
  constructor
  · unfold numberV n4
    rw [show okSize 4 = true from rfl, if_pos rfl]
    unfold takeL numOf
    rw [hc, if_pos rfl]
    rfl
  · unfold numberS
    rw [show okSize 4 = true from rfl, if_pos rfl]
    unfold takeS
    rw [hc]
    rfl
theorem num4_no (l : List UInt8) (p : Nat) (f : Bool) (h : l.length < p + 4) : numberV ⟨l, p, false, f⟩ 4 = 0 ∧ numberS ⟨l, p, false, f⟩ 4 = ⟨l, p, false, true⟩ := by
  have hc : canTake ⟨l, p, false, f⟩ 4 = false := by
    unfold canTake
    cases f <;> simp
    omega
  constructor
  · unfold numberV
    rw [show okSize 4 = true from rfl, if_pos rfl]
    unfold takeL numOf
    rw [hc]
    rfl
  · unfold numberS
    rw [show okSize 4 = true from rfl, if_pos rfl]
    unfold takeS
    rw [hc]
    rfl
set_option maxHeartbeats 4000000 in
/-- load.open: a reader behind a command's head, or why there is none. -/
theorem open_any (l : List UInt8) (hl : l.length ≤ 140737488355328) (v : Value) (w : World) (hg : Env w) (rd : byteL.Rd w v l) :
    Calls Tryz.prog 37 #[v] w fun e w' => Chg [] w w' ∧
      if l.length < 8 then e = .returned (.tuple #[.pointer none, .int .u32 0, .int .i64 3])
      else if (l.length : Int) < leastF (n4 l 0) then e = .returned (.tuple #[.pointer none, .int .u32 (n4 l 0), .int .i64 3])
      else ∃ c, e = .returned (.tuple #[.pointer (some ⟨c, 0, none⟩), .int .u32 (n4 l 0), .int .i64 0]) ∧ w.heap.size ≤ c ∧ CurB w' c ⟨l, 8, false, false⟩ := by
  obtain ⟨a, cap, rfl, hc1, hc2⟩ := rd.shape
  have HNW := Lib.hid (New_cur (.slice a l.length cap) l false w (Rd_of_byte rd) hl)
  have HN := Lib.hid (fun (c : Nat) (s : CS) (m : Int) w h => Number_cur c s m w h)
  have hn4 := n4_lt l 0
  have hw4 : ((n4 l 0 : Nat) : Int) % 4294967296 = (n4 l 0 : Nat) := by omega
  by_cases h8 : l.length < 8
  · simp only [if_pos h8]
    obtain ⟨s2, hs2, hf2⟩ : ∃ s2, numberS (numberS ⟨l, 0, false, false⟩ 4) 4 = s2 ∧ s2.failed = true := by
      by_cases h4 : l.length < 4
      · rw [(num4_no l 0 false (by omega)).2, (num4_no l 0 true (by omega)).2]
        exact ⟨_, rfl, rfl⟩
      · rw [(num4 l 0 (by omega)).2, (num4_no l 4 false (by omega)).2]
        exact ⟨_, rfl, rfl⟩
    obtain ⟨z, hz⟩ : ∃ z : Nat, numberV ⟨l, 0, false, false⟩ 4 = z := ⟨_, rfl⟩
    have Hg := Lib.hid hg
    have RD := Lib.hid rd
    have Hs2 := Lib.hid hs2
    have Hf2 := Lib.hid hf2
    have Hw4 := Lib.hid hw4
    have Hz := Lib.hid hz
    clear hg rd hs2 hf2 hw4 hz
    go_enter Tryz.func37, Tryz.ntmps37
    go_wp2_with fail
    refine (HNW.out).mono ?_
    rintro e W1 ⟨c, rfl, hlo, hcu, hc⟩
    have C1 : Hid (Chg [] w W1) := Lib.hid (hc)
    have CU1 := Lib.hid hcu
    clear hcu
    clear hc
    go_wp2_with fail
    refine (HN.out c _ 4 W1 CU1.out).mono ?_
    rintro e W2 ⟨rfl, hcu, hc⟩
    have C2 : Hid (Chg [] w W2) := Lib.hid (C1.out.new hc hlo)
    have CU2 := Lib.hid hcu
    clear hcu
    clear hc
    go_wp2_with fail
    refine (HN.out c _ 4 W2 CU2.out).mono ?_
    rintro e W3 ⟨rfl, hcu, hc⟩
    have C3 : Hid (Chg [] w W3) := Lib.hid (C2.out.new hc hlo)
    have CU3 := Lib.hid hcu
    clear hcu
    clear hc
    go_wp2_with fail
    have hcu3 := CU3.out
    rw [Hs2.out] at hcu3
    have Hcu3 := Lib.hid hcu3
    clear hcu3
    refine (Err_bad c s2 _ (Hg.out.frame C3.out (by simp)) Hcu3.out Hf2.out).mono ?_
    rintro e W4 ⟨rfl, hc⟩
    have C4 := Lib.hid (C3.out.then hc)
    clear hc
    go_wp2
    go_ret3
    exact ⟨C4.out, rfl⟩
  · have hn1 := num4 l 0 (by omega)
    have hn2 := num4 l 4 (by omega)
    have hlt : leastF (n4 l 0) ≤ 72 ∧ 0 ≤ leastF (n4 l 0) := ⟨(leastF_le _).2, (leastF_le _).1⟩
    simp only [if_neg h8]
    obtain ⟨z, hz⟩ : ∃ z, z = n4 l 0 := ⟨_, rfl⟩
    rw [← hz] at hn1 hlt hw4 ⊢
    obtain ⟨q, hq⟩ : ∃ q, q = leastF z := ⟨_, rfl⟩
    have SG := Lib.hid (sizesM_getD z)
    have hq2 := hq
    rw [← hq] at hlt ⊢
    by_cases h9 : (l.length : Int) < q
    · simp only [if_pos h9]
      have d9 : decide ((l.length : Int) < q) = true := decide_eq_true h9
      have Hg := Lib.hid hg
      have RD := Lib.hid rd
      have Hn1 := Lib.hid hn1
      have Hn2 := Lib.hid hn2
      have Hw4 := Lib.hid hw4
      have Hq2 := Lib.hid hq2
      have Hz := Lib.hid hz
      have Hq := Lib.hid hq
      clear hg rd hn1 hn2 hw4 hq2 hz hq
      go_enter Tryz.func37, Tryz.ntmps37
      go_wp2_with fail
      refine (HNW.out).mono ?_
      rintro e W1 ⟨c, rfl, hlo, hcu, hc⟩
      have C1 : Hid (Chg [] w W1) := Lib.hid (hc)
      have CU1 := Lib.hid hcu
      clear hcu
      clear hc
      go_wp2_with fail
      refine (HN.out c _ 4 W1 CU1.out).mono ?_
      rintro e W2 ⟨rfl, hcu, hc⟩
      have C2 : Hid (Chg [] w W2) := Lib.hid (C1.out.new hc hlo)
      have CU2 := Lib.hid hcu
      clear hcu
      clear hc
      go_wp2_with fail
      refine (HN.out c _ 4 W2 CU2.out).mono ?_
      rintro e W3 ⟨rfl, hcu, hc⟩
      have C3 : Hid (Chg [] w W3) := Lib.hid (C2.out.new hc hlo)
      have CU3 := Lib.hid hcu
      clear hcu
      clear hc
      go_wp2_with fail
      have hcu3 := CU3.out
      rw [Hn1.out.2, Hn2.out.2] at hcu3
      rw [Hn1.out.1, Hw4.out]
      have Hcu3 := Lib.hid hcu3
      clear hcu3
      refine (Err_ok c _ _ Hcu3.out rfl).mono ?_
      rintro e W4 ⟨rfl, hc⟩
      have C4 := Lib.hid (C3.out.then hc)
      have CU4 := Lib.hid (Hcu3.out.frame hc)
      clear hc
      go_wp2_with fail
      refine (sizes_any W4).mono ?_
      rintro e W5 ⟨b, rfl, _, hm, hc⟩
      have C5 := Lib.hid (C4.out.then hc)
      have CU5 := Lib.hid (CU4.out.frame hc)
      have Hm := Lib.hid hm
      clear hm
      clear hc
      go_wp2_with ((with_reducible refine getV Tryz.tSzs Hm.out z (.int .i64 q) (by rw [SG.out, Hq2.out]) ?_ ?_ ?_); exact rfl; exact rfl; refine Hid.out ?_)
      refine Lib.hid ?_
      go_wp2
      go_ret3
      exact ⟨C5.out, rfl⟩
    · simp only [if_neg h9]
      have d9 : decide ((l.length : Int) < q) = false := decide_eq_false h9
      have Hg := Lib.hid hg
      have RD := Lib.hid rd
      have Hn1 := Lib.hid hn1
      have Hn2 := Lib.hid hn2
      have Hw4 := Lib.hid hw4
      have Hq2 := Lib.hid hq2
      have Hz := Lib.hid hz
      have Hq := Lib.hid hq
      clear hg rd hn1 hn2 hw4 hq2 hz hq
      go_enter Tryz.func37, Tryz.ntmps37
      go_wp2_with fail
      refine (HNW.out).mono ?_
      rintro e W1 ⟨c, rfl, hlo, hcu, hc⟩
      have C1 : Hid (Chg [] w W1) := Lib.hid (hc)
      have CU1 := Lib.hid hcu
      clear hcu
      clear hc
      go_wp2_with fail
      refine (HN.out c _ 4 W1 CU1.out).mono ?_
      rintro e W2 ⟨rfl, hcu, hc⟩
      have C2 : Hid (Chg [] w W2) := Lib.hid (C1.out.new hc hlo)
      have CU2 := Lib.hid hcu
      clear hcu
      clear hc
      go_wp2_with fail
      refine (HN.out c _ 4 W2 CU2.out).mono ?_
      rintro e W3 ⟨rfl, hcu, hc⟩
      have C3 : Hid (Chg [] w W3) := Lib.hid (C2.out.new hc hlo)
      have CU3 := Lib.hid hcu
      clear hcu
      clear hc
      go_wp2_with fail
      have hcu3 := CU3.out
      rw [Hn1.out.2, Hn2.out.2] at hcu3
      rw [Hn1.out.1, Hw4.out]
      have Hcu3 := Lib.hid hcu3
      clear hcu3
      refine (Err_ok c _ _ Hcu3.out rfl).mono ?_
      rintro e W4 ⟨rfl, hc⟩
      have C4 := Lib.hid (C3.out.then hc)
      have CU4 := Lib.hid (Hcu3.out.frame hc)
      clear hc
      go_wp2_with fail
      refine (sizes_any W4).mono ?_
      rintro e W5 ⟨b, rfl, _, hm, hc⟩
      have C5 := Lib.hid (C4.out.then hc)
      have CU5 := Lib.hid (CU4.out.frame hc)
      have Hm := Lib.hid hm
      clear hm
      clear hc
      go_wp2_with ((with_reducible refine getV Tryz.tSzs Hm.out z (.int .i64 q) (by rw [SG.out, Hq2.out]) ?_ ?_ ?_); exact rfl; exact rfl; refine Hid.out ?_)
      refine Lib.hid ?_
      go_wp2
      go_ret3
      exact ⟨C5.out, c, rfl, hlo, CU5.out⟩
end Go.Proofs.YtgjlgamlmmjdpaaGreatDoor
/- Contracts of the library, proved once in the kit, laid at this seat's program (made by the kit's tools lay-shelf and lay-plain). -/
namespace Go.Proofs
open Go.Shelf
def Tryz.lays187_ren : Go.Shelf.Ren := ⟨fun | 187 => 92 | 255 => 99 | n => n, fun | 37 => 22 | 5 => 5 | 3 => 3 | n => n, fun | n => n⟩
theorem Tryz.lays187 : Go.Proofs.Lays.n187 Tryz.prog Tryz.lays187_ren := {
  mixed := by kernel_rfl
  f187 := Tryz.func92.trans (congrArg some (by kernel_rfl))
  f255 := Tryz.func99.trans (congrArg some (by kernel_rfl))
  t3 := Tryz.underlying3
  a3 := Tryz.isAgg3
  z3 := Tryz.sizeOf3
  v3 := Tryz.zeroValue3
  t5 := Tryz.underlying5
  a5 := Tryz.isAgg5
  z5 := Tryz.sizeOf5
  v5 := Tryz.zeroValue5
  t37 := Tryz.underlying22
  a37 := Tryz.isAgg22
  z37 := Tryz.sizeOf22
  v37 := Tryz.zeroValue22 }
open Go.RowKit Go.Lib in
theorem Tryz.bytes_IndexByte_at (a : Addr) (n c : Nat) (xs : List Int) (cv : Int) (w : World) (hx : xs.length = n) (hc : ∀ i, i < n → w.cell? (a.add i) = some (.int .u8 (xs.getD i 0))) :
    Calls Tryz.prog 92 #[.slice (some a) n c, .int .u8 cv] w fun e w' => e = .returned (.int .i64 (Lib.indexByte (Lib.bytesOf xs) cv.toNat.toUInt8)) ∧ w' = w := Any.bytes_IndexByte_at Tryz.lays187 a n c xs cv w hx hc
end Go.Proofs
/- Bytes as a string; a part of a row of bytes. -/
namespace Go.Proofs.YtgjlgamlmmjdpaaGreatDoor
open Go.RowKit
set_option maxRecDepth 100000

theorem foldl_push' (ns : List Int) (s : ByteArray) : ns.foldl (fun r n => r.push (UInt8.ofNat n.toNat)) s = ⟨s.data ++ (ns.map fun n => UInt8.ofNat n.toNat).toArray⟩ := by
  induction ns generalizing s with
  | nil => simp
  | cons n r ih => simp only [List.foldl_cons, ih]; simp [ByteArray.push]
/-- string(v), v a slice of bytes. -/
theorem run_strB {w : World} {a : Option Addr} {n cap : Nat} {l : List UInt8} (h : byteL.Rd w (.slice a n cap) l) :
    (convert 22 9 (.slice a n cap)).run Tryz.prog w = .ok (.string ⟨l.toArray⟩) w := by
  rw [run_convert_bytes_string (P := Tryz.prog) w 22 9 5 a n cap Tryz.underlying22 Tryz.underlying5 Tryz.underlying9]
  cases a with
  | none =>
    obtain ⟨a', n', cap', he, hn, hnc, hcm, hx⟩ := h
    cases he
    have hnil : l = [] := by
      cases l with
      | nil => rfl
      | cons x r => obtain ⟨b, off, h, _⟩ := hx (by simp); cases h
    subst hnil
    subst hn
    rfl
  | some ad =>
    obtain ⟨hn, hc⟩ := Lay.Rd.cells h
    subst hn
    have hload : (loadCells ad l.length).run Tryz.prog w = .ok ((l.map fun x => (x.toNat : Int)).map (Value.int .u8)).toArray w := by
      have hxs : (l.map fun x => (x.toNat : Int)).map (Value.int .u8) = byteL.vals l := by rw [byte_vals]; simp [Function.comp_def]
      rw [hxs]
      have := run_loadCells_list (P := Tryz.prog) (w := w) ad (byteL.vals l) (fun j u hu => hc j u hu)
      rw [Lay.vals_len, show byteL.n = 1 from rfl, Nat.mul_one] at this
      exact this
    rw [run_bytesToString w ad l.length cap _ hload, foldl_push']
    have e : (l.map fun x => (x.toNat : Int)).map (fun n => UInt8.ofNat n.toNat) = l := by
      rw [List.map_map]
      conv => rhs; rw [← List.map_id l]
      refine List.map_congr_left fun x _ => ?_
      simp
    rw [e]
    simp
/-- A part of a row. -/
theorem Rd_sub {w : World} {b off n cap : Nat} {l : List UInt8} (h : byteL.Rd w (.slice (some ⟨b, off, none⟩) n cap) l) (k m c : Nat) (hk : k + m ≤ l.length) (hm : m ≤ c) (hc : c ≤ maxLen) : byteL.Rd w (.slice (some ⟨b, off + k, none⟩) m c) ((l.drop k).take m) := by
  obtain ⟨a', n', cap', he, hn, _, _, hx⟩ := h
  cases he
  have hl : ((l.drop k).take m).length = m := by rw [List.length_take, List.length_drop]; omega
  refine ⟨_, _, _, rfl, hl.symm, hm, hc, fun hne => ?_⟩
  have hne2 : l ≠ [] := by rintro rfl; simp at hne
  obtain ⟨b', off', e, hb, hcell⟩ := hx hne2
  cases e
  refine ⟨_, _, rfl, hb, fun j hj c hc => ?_⟩
  rw [hl] at hj
  have := hcell (k + j) (by omega) c hc
  have hg : ((l.drop k).take m).getD j byteL.d = l.getD (k + j) byteL.d := by
    simp [List.getD_eq_getElem?_getD, List.getElem?_drop, hj]
  rw [hg, ← this]
  congr 2
  show off + k + j * 1 + c = off + (k + j) * 1 + c
  omega
end Go.Proofs.YtgjlgamlmmjdpaaGreatDoor
/- cursor.Text, walked. -/
namespace Go.Proofs.YtgjlgamlmmjdpaaGreatDoor
open Go.RowKit
set_option maxRecDepth 100000

theorem run_str {w : World} {a : Option Addr} {n cap : Nat} {l : List UInt8} (h : Rd w (.slice a n cap) (bytesV l)) :
    (convert 22 9 (.slice a n cap)).run Tryz.prog w = .ok (.string ⟨l.toArray⟩) w := run_strB (Rd_to_byte h)
theorem bytesOf_map (l : List UInt8) : Lib.bytesOf (l.map fun x => (x.toNat : Int)) = l := by
  unfold Lib.bytesOf
  rw [List.map_map]
  conv => rhs; rw [← List.map_id l]
  refine List.map_congr_left fun x _ => ?_
  simp
theorem IndexByte_rd (a : Option Addr) (n cap : Nat) (l : List UInt8) (w : World) (h : Rd w (.slice a n cap) (bytesV l)) :
    Calls Tryz.prog 92 #[.slice a n cap, .int .u8 0] w fun e w' => e = .returned (.int .i64 (Lib.indexByte l 0)) ∧ w' = w := by
  obtain ⟨a', n', cap', he, hn, hnc, hcm, hx⟩ := h
  cases he
  rw [bytesV_length] at hn
  subst hn
  cases a with
  | none =>
    have hnil : l = [] := by
      cases l with
      | nil => rfl
      | cons x r => obtain ⟨b, off, h, _⟩ := hx (by simp [bytesV]); cases h
    subst hnil
    clear hx hnc hcm
    go_enter Tryz.func92, Tryz.ntmps92
    go_wp2
    rw [run_callFunc_extern Tryz.func99 (by kernel_rfl) (by kernel_rfl) (by kernel_rfl) (e := Extern.BytealgIndexByte.indexByte) (by kernel_rfl), Lib.run_indexByteNil w _ cap 0]
    simp only [Result.andThen]
    rw [Oper.upon_value]
    go_wp2
    go_ret
    exact ⟨rfl, rfl⟩
  | some ad =>
    have := Tryz.bytes_IndexByte_at ad l.length cap (l.map fun x => (x.toNat : Int)) 0 w (by simp) (fun i hi => by
      obtain ⟨b, off, h, hcell⟩ := hx (by intro e; have := congrArg List.length e; rw [bytesV_length] at this; rw [this] at hi; exact absurd hi (by simp))
      cases h
      rw [Addr_add, hcell i (by rw [bytesV_length]; exact hi), bytesV_get l i hi]
      simp [List.getD_eq_getElem?_getD, hi])
    rw [bytesOf_map] at this
    exact this
theorem Text_cur (b : Nat) (s : CS) (most : Int) (w : World) (h : CurB w b s) :
    Calls Tryz.prog 66 #[.pointer (some ⟨b, 0, none⟩), .int .i64 most] w fun e w' => e = .returned (.string ⟨(textL s most).toArray⟩) ∧ CurB w' b (textS s most) ∧ Chg [b] w w' := by
  have H := Lib.hid h
  clear h
  by_cases hf : s.failed = true
  · have HT : Hid (textOk s most = false) := Lib.hid (by simp [textOk, hf])
    have HF := Lib.hid hf
    clear hf
    go_enter Tryz.func66, Tryz.ntmps66
    go_wp2_with fail
    refine (well_cur b s true w H.out).mono ?_
    rintro e w1 ⟨rfl, hcx, hch⟩
    rw [HF.out]
    have HC := Lib.hid hcx
    have HH := Lib.hid hch
    clear hcx hch
    go_wp2
    go_ret
    refine ⟨by unfold textL; rw [HT.out]; rfl, by unfold textS; rw [HT.out]; rw [failS_of HF.out]; exact HC.out, HH.out⟩
  · have HF : Hid (s.failed = false) := Lib.hid (by simpa using hf)
    clear hf
    go_enter Tryz.func66, Tryz.ntmps66
    go_wp2_with fail
    refine (well_cur b s true w H.out).mono ?_
    rintro e w1 ⟨rfl, hcx, hch⟩
    rw [HF.out]
    replace hcx : CurB w1 b s := hcx
    have HC := Lib.hid hcx
    have HH := Lib.hid hch
    clear H
    obtain ⟨a, n, cap, hb, rfl, h2, h3, h4, h5, h6⟩ := hcx
    have hc0 : w1.drew.cell? ⟨b, 0, none⟩ = _ := cell_of_heap hb 0
    have hc1 : w1.drew.cell? ⟨b, 1, none⟩ = _ := cell_of_heap hb 1
    simp at hc0 hc1
    have HRD : Hid (∀ a', (s.at_ = s.l.length ∨ ∃ d off, a = some ⟨d, off, none⟩ ∧ a' = some ⟨d, off + s.at_, none⟩) → Rd w1.drew (.slice a' (s.l.length - s.at_) (cap - s.at_)) (bytesV (s.l.drop s.at_))) := Lib.hid (by
      intro a' h
      have e : (bytesV (s.l.drop s.at_)).length = s.l.length - s.at_ := by simp [bytesV]
      refine ⟨_, _, _, rfl, e.symm, by omega, by omega, fun hne => ?_⟩
      have hpos : 0 < s.l.length - s.at_ := by rw [← e]; exact List.length_pos_iff.2 hne
      rcases h with h | ⟨d, off, rfl, rfl⟩
      · omega
      · refine ⟨d, _, rfl, fun j hj => ?_⟩
        rw [e] at hj
        have hl0 : 0 < s.l.length := by omega
        have hl1 : s.at_ + j < s.l.length := by omega
        obtain ⟨d', off', c, ha, hdb, hd', hc'⟩ := h6 hl0
        cases ha
        have := hc' (s.at_ + j) hl1
        rw [Nat.add_assoc, bytesV_get _ _ (by simp; omega)]
        show w1.cell? _ = _
        rw [this]
        simp [List.getD_eq_getElem?_getD])
    have HA : Hid (s.at_ < s.l.length → ∃ d off, a = some ⟨d, off, none⟩) := Lib.hid (fun h => by obtain ⟨d, off, _, ha, _⟩ := h6 (by omega); exact ⟨d, off, ha⟩)
    clear hb hch h6
    have hdec : decide ((s.at_ : Int) ≤ s.l.length) = true := by rw [decide_eq_true_iff]; omega
    by_cases hlt : s.at_ < s.l.length
    · obtain ⟨d, off, rfl⟩ := HA.out hlt
      have hne : ¬ (s.l.length - s.at_ = 0) := by omega
      have hne2 : ¬ (cap - s.at_ = 0) := by omega
      go_wp2_with fail
      refine wp_region_still_tail 9 (by kernel_rfl) (by kernel_rfl) ?_
      simp only [List.take_succ_cons, List.take_zero, List.drop_succ_cons, List.drop_zero]
      change wpStill _ _ w1.drew _ _ _
      repeat still_step
      refine wpStill_nil ?_
      change wpList _ _ _ _ _ w1.drew
      go_wp2_with fail
      refine (IndexByte_rd _ _ _ (s.l.drop s.at_) w1.drew (HRD.out _ (.inr ⟨_, _, rfl, rfl⟩))).mono ?_
      rintro e w2 ⟨rfl, rfl⟩
      have HC2 : Hid (CurB w1.drew b s) := HC
      have HH2 : Hid (Chg [b] w w1.drew) := Lib.hid HH.out.drew
      have hzz : zeroAt s = Lib.indexByte (s.l.drop s.at_) 0 := rfl
      have hz1 := indexByte_lt (s.l.drop s.at_) 0
      rw [← hzz, List.length_drop] at hz1
      rw [← hzz]
      obtain ⟨z, hz⟩ : ∃ z, z = zeroAt s := ⟨_, rfl⟩
      rw [← hz] at hz1 ⊢
      have HZ := Lib.hid hz
      have HF2 := HF
      clear HC HH HRD HA hc0 hc1 hzz hz HF
      by_cases hz0 : 0 ≤ z
      · have d1 : decide (0 ≤ z) = true := by simpa using hz0
        by_cases hzm : z ≤ most
        · have d2 : decide (z ≤ most) = true := by simpa using hzm
          have HT : Hid (textOk s most = true) := Lib.hid (by unfold textOk; rw [HF2.out, ← HZ.out, d1, d2]; rfl)
          have hwr : IntKind.i64.wrap (z + 1) = z + 1 := by rw [IntKind.wrap_i64]; omega
          have hcan : canTake s (z + 1) = true := canTake_of HF2.out (by omega) (by omega)
          have HCAN := Lib.hid hcan
          clear hcan
          go_wp2_with fail
          refine (well_cur b s true _ HC2.out).mono ?_
          rintro e w3 ⟨rfl, hcx, hch⟩
          rw [HF2.out]
          replace hcx : CurB w3 b s := hcx
          have HC3 := Lib.hid hcx
          have HH3 := Lib.hid (HH2.out.same hch)
          clear hcx hch HC2 HH2
          go_wp2_with fail
          refine (take_cur b s (z + 1) w3 HC3.out).mono ?_
          rintro e w4 ⟨v, rfl, hcx, hrd, hch⟩
          obtain ⟨k, rfl⟩ : ∃ k : Nat, z = k := ⟨z.toNat, by omega⟩
          have hlen : (takeL s ((k : Int) + 1)).length = k + 1 := by
            have := takeL_length HC3.out.at_le HCAN.out
            rw [this]; omega
          have HTL : Hid ((takeL s ((k : Int) + 1)).take k = textL s most) := Lib.hid (by
            unfold textL; rw [HT.out, if_pos rfl, ← HZ.out, takeL_list HCAN.out]
            simp [List.take_take])
          have HTS : Hid (takeS s ((k : Int) + 1) = textS s most) := Lib.hid (by
            unfold textS takeS; rw [HT.out, HCAN.out, if_pos rfl, if_pos rfl, ← HZ.out]
            simp [HF2.out]; omega)
          rw [HTS.out] at hcx
          have HC4 := Lib.hid hcx
          have HH4 := Lib.hid (HH3.out.same hch)
          obtain ⟨a', n', cap', rfl, hn', hnc', hcm', hx'⟩ := id hrd
          rw [bytesV_length, hlen] at hn'
          subst hn'
          have hst := run_str (Rd_takeG hrd (k := k) (by omega))
          rw [HTL.out] at hst
          clear hcx hch hrd hx' HC3 HH3 hlen
          go_wp2
          go_ret
          exact ⟨rfl, HC4.out, HH4.out⟩
        · have d2 : decide (z ≤ most) = false := by simpa using hzm
          have HT : Hid (textOk s most = false) := Lib.hid (by unfold textOk; rw [← HZ.out, d2]; simp)
          go_wp2_with fail
          refine (well_cur b s false _ HC2.out).mono ?_
          rintro e w3 ⟨rfl, hcx, hch⟩
          simp only [Bool.false_and]
          replace hcx : CurB w3 b (failS s) := hcx
          have HC3 := Lib.hid hcx
          have HH3 := Lib.hid hch
          clear hcx hch
          go_wp2
          go_ret
          refine ⟨by unfold textL; rw [HT.out]; rfl, by unfold textS; rw [HT.out]; exact HC3.out, HH2.out.same HH3.out⟩
      · have d1 : decide (0 ≤ z) = false := by simpa using hz0
        have HT : Hid (textOk s most = false) := Lib.hid (by unfold textOk; rw [← HZ.out, d1]; simp)
        go_wp2_with fail
        refine (well_cur b s false _ HC2.out).mono ?_
        rintro e w3 ⟨rfl, hcx, hch⟩
        simp only [Bool.false_and]
        replace hcx : CurB w3 b (failS s) := hcx
        have HC3 := Lib.hid hcx
        have HH3 := Lib.hid hch
        clear hcx hch
        go_wp2
        go_ret
        refine ⟨by unfold textL; rw [HT.out]; rfl, by unfold textS; rw [HT.out]; exact HC3.out, HH2.out.same HH3.out⟩
    · have hat : s.at_ = s.l.length := by omega
      have HZ : Hid (zeroAt s = -1) := Lib.hid (by unfold zeroAt; rw [hat, List.drop_length]; rfl)
      have HT : Hid (textOk s most = false) := Lib.hid (by unfold textOk; rw [HZ.out]; simp)
      have HRD0 : Hid (∀ a' c, c ≤ maxLen → Rd w1.drew (.slice a' 0 c) (bytesV (s.l.drop s.at_))) := Lib.hid (fun a' c h => by
        rw [hat, List.drop_length]; exact ⟨_, _, _, rfl, rfl, Nat.zero_le _, h, fun h => absurd rfl h⟩)
      have HZ2 : Hid (Lib.indexByte (s.l.drop s.at_) 0 = -1) := HZ
      go_wp2_with fail
      refine wp_region_still_tail 9 (by kernel_rfl) (by kernel_rfl) ?_
      simp only [List.take_succ_cons, List.take_zero, List.drop_succ_cons, List.drop_zero]
      change wpStill _ _ w1.drew _ _ _
      repeat still_step
      refine wpStill_nil ?_
      change wpList _ _ _ _ _ w1.drew
      go_wp2_with fail
      all_goals
        refine (IndexByte_rd _ _ _ (s.l.drop s.at_) w1.drew (HRD0.out _ _ (by omega))).mono ?_
        rintro e w2 ⟨rfl, rfl⟩
        rw [HZ2.out]
        have HC2 : Hid (CurB w1.drew b s) := HC
        have HH2 : Hid (Chg [b] w w1.drew) := Lib.hid HH.out.drew
        clear HC HH HRD HRD0 HA
        go_wp2_with fail
        refine (well_cur b s false _ HC2.out).mono ?_
        rintro e w3 ⟨rfl, hcx, hch⟩
        simp only [Bool.false_and]
        replace hcx : CurB w3 b (failS s) := hcx
        have HC3 := Lib.hid hcx
        have HH3 := Lib.hid hch
        clear hcx hch
        go_wp2
        go_ret
        refine ⟨by unfold textL; rw [HT.out]; rfl, by unfold textS; rw [HT.out]; exact HC3.out, HH2.out.same HH3.out⟩
end Go.Proofs.YtgjlgamlmmjdpaaGreatDoor
/- cursor.Field: bytes up to the first zero (bytes.Cut at a separator of one byte). -/
namespace Go.Proofs.YtgjlgamlmmjdpaaGreatDoor
open Go.RowKit
set_option maxRecDepth 100000

/-- The bytes ahead of the first zero, or all. -/
def cutZ (l : List UInt8) : List UInt8 := if 0 ≤ Lib.indexByte l 0 then l.take (Lib.indexByte l 0).toNat else l
set_option maxHeartbeats 4000000 in
theorem Index_one (a : Option Addr) (n cap : Nat) (l : List UInt8) (w : World) (d : Addr) (c : Nat) (h : Rd w (.slice a n cap) (bytesV l)) (hz : w.cell? d = some (.int .u8 0)) :
    Calls Tryz.prog 100 #[.slice a n cap, .slice (some d) 1 c] w fun e w' => e = .returned (.int .i64 (Lib.indexByte l 0)) ∧ w' = w := by
  obtain ⟨db, dof, dn⟩ := d
  have hz0 := hz
  have H := Lib.hid h
  clear h
  go_enter Tryz.func100, Tryz.ntmps100
  go_wp2_with fail
  refine (IndexByte_rd a n cap l w H.out).mono ?_
  rintro e W ⟨rfl, rfl⟩
  go_wp2
  go_ret
  exact ⟨rfl, rfl⟩
set_option maxHeartbeats 4000000 in
theorem Cut_one (a : Option Addr) (n cap : Nat) (l : List UInt8) (w : World) (d : Addr) (c : Nat) (h : Rd w (.slice a n cap) (bytesV l)) (hz : w.cell? d = some (.int .u8 0)) :
    Calls Tryz.prog 98 #[.slice a n cap, .slice (some d) 1 c] w fun e w' => ∃ v x f, e = .returned (.tuple #[v, x, f]) ∧ Rd w' v (bytesV (cutZ l)) ∧ Chg [] w w' := by
  have hn : n = l.length := by
    obtain ⟨_, _, _, he, h1, _⟩ := id h
    cases he; rw [bytesV_length] at h1; exact h1
  subst hn
  have hlt := indexByte_lt l 0
  obtain ⟨z, hzz⟩ : ∃ z, z = Lib.indexByte l 0 := ⟨_, rfl⟩
  rw [← hzz] at hlt
  by_cases h0 : 0 ≤ z
  · have d0 : decide (0 ≤ z) = true := decide_eq_true h0
    obtain ⟨k, rfl⟩ : ∃ k : Nat, z = k := ⟨z.toNat, by omega⟩
    obtain ⟨_, _, cap', he, hL, hcap, hmax, hcc⟩ := id h
    cases he
    have hne0 : bytesV l ≠ [] := by intro e; have := congrArg List.length e; rw [bytesV_length] at this; simp at this; rw [this] at hlt; simp at hlt; omega
    obtain ⟨b, off, rfl, hX⟩ := hcc hne0
    have HR : Hid (Rd w (.slice (some ⟨b, off, none⟩) k cap) (bytesV (cutZ l))) := Lib.hid (by
      have := Rd_takeG h (k := k) (by omega)
      unfold cutZ
      rw [← hzz, if_pos h0]
      exact this)
    have hmax2 : (cap : Int) ≤ 9223372036854775807 := by have : maxLen = 9223372036854775807 := rfl; omega
    have hcap2 : (l.length : Int) ≤ cap := by have := hcap; omega
    clear hcc hne0 hmax hcap hX hL
    have hk1 : (k : Int) + 1 ≤ l.length := by omega
    have hk2 : (k : Int) + 1 ≤ cap := by omega
    have hk3 : (k : Int) ≤ cap := by omega
    have hwr : IntKind.i64.wrap ((k : Int) + 1) = k + 1 := by rw [IntKind.wrap_i64]; omega
    have hkn : ((k : Int) + 1).toNat = k + 1 := by omega
    have H := Lib.hid h
    have Hzz := Lib.hid hzz
    have Hz := Lib.hid hz
    clear h hzz hz
    go_enter Tryz.func98, Tryz.ntmps98
    go_wp2_with fail
    refine (Index_one (some ⟨b, off, none⟩) l.length cap l w d c H.out Hz.out).mono ?_
    rintro e W ⟨rfl, rfl⟩
    rw [← Hzz.out]
    go_wp2_with fail
    go_quiet (fail)
    go_wp2
    all_goals
      go_ret3
      first
        | exact ⟨_, ⟨_, _, rfl⟩, HR.out, (Chg.refl _ _).drewN _⟩
        | (have hhr := HR.out; rw [show cap = k + 1 by assumption] at hhr; exact ⟨_, ⟨_, _, rfl⟩, hhr, (Chg.refl _ _).drewN _⟩)
  · have d0 : decide (0 ≤ z) = false := decide_eq_false h0
    have HR : Hid (Rd w (.slice a l.length cap) (bytesV (cutZ l))) := Lib.hid (by
      unfold cutZ
      rw [← hzz, if_neg h0]
      exact h)
    have H := Lib.hid h
    have Hzz := Lib.hid hzz
    have Hz := Lib.hid hz
    clear h hzz hz
    go_enter Tryz.func98, Tryz.ntmps98
    go_wp2_with fail
    refine (Index_one a l.length cap l w d c H.out Hz.out).mono ?_
    rintro e W ⟨rfl, rfl⟩
    rw [← Hzz.out]
    go_wp2
    go_ret3
    exact ⟨_, _, _, rfl, HR.out, Chg.refl _ _⟩
set_option maxHeartbeats 4000000 in
theorem Field_cur (b : Nat) (s : CS) (m : Int) (w : World) (h : CurB w b s) :
    Calls Tryz.prog 90 #[.pointer (some ⟨b, 0, none⟩), .int .i64 m] w fun e w' => e = .returned (.string ⟨(cutZ (takeL s m)).toArray⟩) ∧ CurB w' b (takeS s m) ∧ Chg [b] w w' := by
  have H := Lib.hid h
  clear h
  go_enter Tryz.func90, Tryz.ntmps90
  go_wp2_with fail
  refine (take_cur b s m w H.out).mono ?_
  rintro e W1 ⟨v, rfl, hcx, hrd, hch⟩
  obtain ⟨a, n, cap, rfl, hn, hnc, hcm, hx⟩ := id hrd
  have hcell : (W1.alloc (.cells #[.int .u8 0] 5)).cell? ⟨W1.heap.size, 0, none⟩ = some (.int .u8 0) := cell_of_heap (heap_alloc_eq W1 _) 0
  have Hcx := Lib.hid hcx
  have Hrd := Lib.hid hrd
  have Hch := Lib.hid hch
  have Hcell := Lib.hid hcell
  clear hcx hrd hch hcell
  clear hn hnc hcm hx
  go_wp2_with fail
  refine (Cut_one a n cap (takeL s m) _ _ _ (Hrd.out.alloc _) Hcell.out).mono ?_
  rintro e W2 ⟨v2, x2, f2, rfl, hrd2, hc2⟩
  obtain ⟨a2, n2, cap2, rfl, hn, hnc, hcm, hx⟩ := id hrd2
  have hst := run_str hrd2
  have Hrd2 := Lib.hid hrd2
  have Hc2 := Lib.hid hc2
  clear hrd2 hc2
  clear hn hnc hcm hx
  go_wp2
  go_ret
  exact ⟨rfl, (Hcx.out.frame ((Chg.refl _ _).alloc _)).frame Hc2.out, (Hch.out.alloc _).then Hc2.out⟩
end Go.Proofs.YtgjlgamlmmjdpaaGreatDoor
