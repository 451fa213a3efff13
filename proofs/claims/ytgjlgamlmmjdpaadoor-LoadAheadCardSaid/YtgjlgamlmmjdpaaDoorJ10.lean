/- Lemmas, laid together: part 10 of 38. Conditions: none but each lemma's own. -/
import Derived.Test.YtgjlgamlmmjdpaaDoorJ5
import Derived.Test.YtgjlgamlmmjdpaaDoorJ7
import Derived.Test.YtgjlgamlmmjdpaaDoorJ9
import Derived.Shelf.LaysM
import Derived.Shelf.Bytes.SlIndexAt
import Derived.Shelf.Bytes.IndexByte
import Derived.Test.YtgjlgamlmmjdpaaDoorProg
import Derived.Laws.BytesString
/- load.open. -/
namespace Go.Proofs.YtgjlgamlmmjdpaaDoor
open Go.RowKit
set_option maxRecDepth 100000

/-- A number of four bytes that stands at a place. -/
def n4 (l : List UInt8) (p : Nat) : Nat := leNum ((l.drop p).take 4)
theorem n4_lt (l : List UInt8) (p : Nat) : n4 l p < 4294967296 := by
  have h := leNum_lt ((l.drop p).take 4)
  have h2 : ((l.drop p).take 4).length ≤ 4 := by rw [List.length_take]; omega
  have h3 : 256 ^ ((l.drop p).take 4).length ≤ 256 ^ 4 := Nat.pow_le_pow_right (by decide) h2
  unfold n4
  omega
theorem Known_any (c : Int) (w : World) : Calls Tryd.prog 11 #[.int .u32 c] w fun e w' => e = .returned (.bool (!decide (leastF c = 0))) ∧ Chg [] w w' := by
  by_cases h : leastF c = 0
  · have HF : Hid (sizesM c = none) := Lib.hid (by unfold sizesM; rw [if_pos h])
    rw [decide_eq_true h]
    have H := Lib.hid h
    clear h
    go_enter Tryd.func11, Tryd.ntmps11
    go_wp2_with fail
    refine (sizes_any w).mono ?_
    rintro e W1 ⟨b, rfl, _, hm, hc⟩
    have Hm := Lib.hid hm
    have Hc := Lib.hid hc
    clear hm hc
    go_wp2_with ((with_reducible refine get2N Tryd.tSzs Hm.out c HF.out ?_ ?_ ?_); exact rfl; exact rfl; refine Hid.out ?_)
    refine Lib.hid ?_
    go_wp2
    go_ret
    exact ⟨rfl, Hc.out⟩
  · have HF : Hid (sizesM c = some (.int .i64 (leastF c))) := Lib.hid (by unfold sizesM; rw [if_neg h])
    rw [decide_eq_false h]
    have H := Lib.hid h
    clear h
    go_enter Tryd.func11, Tryd.ntmps11
    go_wp2_with fail
    refine (sizes_any w).mono ?_
    rintro e W1 ⟨b, rfl, _, hm, hc⟩
    have Hm := Lib.hid hm
    have Hc := Lib.hid hc
    clear hm hc
    go_wp2_with ((with_reducible refine get2S Tryd.tSzs Hm.out c (.int .i64 (leastF c)) HF.out ?_ ?_ ?_); exact rfl; exact rfl; refine Hid.out ?_)
    refine Lib.hid ?_
    go_wp2
    go_ret
    exact ⟨rfl, Hc.out⟩
theorem sizesM_getD (c : Int) : (sizesM c).getD (.int .i64 0) = .int .i64 (leastF c) := by
  unfold sizesM
  by_cases h : leastF c = 0
  · rw [if_pos h, h]; rfl
  · rw [if_neg h]; rfl
theorem leastF_le (c : Int) : 0 ≤ leastF c ∧ leastF c ≤ 72 := by
  unfold leastF
  (repeat' split) <;> omega
theorem num4 (l : List UInt8) (p : Nat) (h : p + 4 ≤ l.length) : numberV ⟨l, p, false, false⟩ 4 = n4 l p ∧ numberS ⟨l, p, false, false⟩ 4 = ⟨l, p + 4, false, false⟩ := by
  have hc : canTake ⟨l, p, false, false⟩ 4 = true := canTake_of rfl (by decide) (by dsimp only; omega)
  constructor
  · unfold numberV n4
    rw [show okSize 4 = true from rfl, if_pos rfl]
    unfold takeL numOf
    rw [hc, if_pos rfl]
    rfl
  · unfold numberS
    rw [show okSize 4 = true from rfl, if_pos rfl]
    unfold takeS
    rw [hc]
    rfl
theorem num4_no (l : List UInt8) (p : Nat) (f : Bool) (h : l.length < p + 4) : numberV ⟨l, p, false, f⟩ 4 = 0 ∧ numberS ⟨l, p, false, f⟩ 4 = ⟨l, p, false, true⟩ := by
  have hc : canTake ⟨l, p, false, f⟩ 4 = false := by
    unfold canTake
    cases f <;> simp
    omega
  constructor
  · unfold numberV
    rw [show okSize 4 = true from rfl, if_pos rfl]
    unfold takeL numOf
    rw [hc]
    rfl
  · unfold numberS
    rw [show okSize 4 = true from rfl, if_pos rfl]
    unfold takeS
    rw [hc]
    rfl
set_option maxHeartbeats 4000000 in
/-- load.open: a reader behind a command's head, or why there is none. -/
theorem open_any (l : List UInt8) (hl : l.length ≤ 140737488355328) (v : Value) (w : World) (hg : Env w) (rd : byteL.Rd w v l) :
    Calls Tryd.prog 16 #[v] w fun e w' => Chg [] w w' ∧
      if l.length < 8 then e = .returned (.tuple #[.pointer none, .int .u32 0, .int .i64 3])
      else if (l.length : Int) < leastF (n4 l 0) then e = .returned (.tuple #[.pointer none, .int .u32 (n4 l 0), .int .i64 3])
      else ∃ c, e = .returned (.tuple #[.pointer (some ⟨c, 0, none⟩), .int .u32 (n4 l 0), .int .i64 0]) ∧ w.heap.size ≤ c ∧ CurB w' c ⟨l, 8, false, false⟩ := by
  obtain ⟨a, cap, rfl, hc1, hc2⟩ := rd.shape
  have HNW := Lib.hid (New_cur (.slice a l.length cap) l false w (Rd_of_byte rd) hl)
  have HN := Lib.hid (fun (c : Nat) (s : CS) (m : Int) w h => Number_cur c s m w h)
  have hn4 := n4_lt l 0
  have hw4 : ((n4 l 0 : Nat) : Int) % 4294967296 = (n4 l 0 : Nat) := by omega
  by_cases h8 : l.length < 8
  · simp only [if_pos h8]
    obtain ⟨s2, hs2, hf2⟩ : ∃ s2, numberS (numberS ⟨l, 0, false, false⟩ 4) 4 = s2 ∧ s2.failed = true := by
      by_cases h4 : l.length < 4
      · rw [(num4_no l 0 false (by omega)).2, (num4_no l 0 true (by omega)).2]
        exact ⟨_, rfl, rfl⟩
      · rw [(num4 l 0 (by omega)).2, (num4_no l 4 false (by omega)).2]
        exact ⟨_, rfl, rfl⟩
    obtain ⟨z, hz⟩ : ∃ z : Nat, numberV ⟨l, 0, false, false⟩ 4 = z := ⟨_, rfl⟩
    have Hg := Lib.hid hg
    have RD := Lib.hid rd
    have Hs2 := Lib.hid hs2
    have Hf2 := Lib.hid hf2
    have Hw4 := Lib.hid hw4
    have Hz := Lib.hid hz
    clear hg rd hs2 hf2 hw4 hz
    go_enter Tryd.func16, Tryd.ntmps16
    go_wp2_with fail
    refine (HNW.out).mono ?_
    rintro e W1 ⟨c, rfl, hlo, hcu, hc⟩
    have C1 : Hid (Chg [] w W1) := Lib.hid (hc)
    have CU1 := Lib.hid hcu
    clear hcu
    clear hc
    go_wp2_with fail
    refine (HN.out c _ 4 W1 CU1.out).mono ?_
    rintro e W2 ⟨rfl, hcu, hc⟩
    have C2 : Hid (Chg [] w W2) := Lib.hid (C1.out.new hc hlo)
    have CU2 := Lib.hid hcu
    clear hcu
    clear hc
    go_wp2_with fail
    refine (HN.out c _ 4 W2 CU2.out).mono ?_
    rintro e W3 ⟨rfl, hcu, hc⟩
    have C3 : Hid (Chg [] w W3) := Lib.hid (C2.out.new hc hlo)
    have CU3 := Lib.hid hcu
    clear hcu
    clear hc
    go_wp2_with fail
    have hcu3 := CU3.out
    rw [Hs2.out] at hcu3
    have Hcu3 := Lib.hid hcu3
    clear hcu3
    refine (Err_bad c s2 _ (Hg.out.frame C3.out (by simp)) Hcu3.out Hf2.out).mono ?_
    rintro e W4 ⟨rfl, hc⟩
    have C4 := Lib.hid (C3.out.then hc)
    clear hc
    go_wp2
    go_ret3
    exact ⟨C4.out, rfl⟩
  · have hn1 := num4 l 0 (by omega)
    have hn2 := num4 l 4 (by omega)
    have hlt : leastF (n4 l 0) ≤ 72 ∧ 0 ≤ leastF (n4 l 0) := ⟨(leastF_le _).2, (leastF_le _).1⟩
    simp only [if_neg h8]
    obtain ⟨z, hz⟩ : ∃ z, z = n4 l 0 := ⟨_, rfl⟩
    rw [← hz] at hn1 hlt hw4 ⊢
    obtain ⟨q, hq⟩ : ∃ q, q = leastF z := ⟨_, rfl⟩
    have SG := Lib.hid (sizesM_getD z)
    have hq2 := hq
    rw [← hq] at hlt ⊢
    by_cases h9 : (l.length : Int) < q
    · simp only [if_pos h9]
      have d9 : decide ((l.length : Int) < q) = true := decide_eq_true h9
      have Hg := Lib.hid hg
      have RD := Lib.hid rd
      have Hn1 := Lib.hid hn1
      have Hn2 := Lib.hid hn2
      have Hw4 := Lib.hid hw4
      have Hq2 := Lib.hid hq2
      have Hz := Lib.hid hz
      have Hq := Lib.hid hq
      clear hg rd hn1 hn2 hw4 hq2 hz hq
      go_enter Tryd.func16, Tryd.ntmps16
      go_wp2_with fail
      refine (HNW.out).mono ?_
      rintro e W1 ⟨c, rfl, hlo, hcu, hc⟩
      have C1 : Hid (Chg [] w W1) := Lib.hid (hc)
      have CU1 := Lib.hid hcu
      clear hcu
      clear hc
      go_wp2_with fail
      refine (HN.out c _ 4 W1 CU1.out).mono ?_
      rintro e W2 ⟨rfl, hcu, hc⟩
      have C2 : Hid (Chg [] w W2) := Lib.hid (C1.out.new hc hlo)
      have CU2 := Lib.hid hcu
      clear hcu
      clear hc
      go_wp2_with fail
      refine (HN.out c _ 4 W2 CU2.out).mono ?_
      rintro e W3 ⟨rfl, hcu, hc⟩
      have C3 : Hid (Chg [] w W3) := Lib.hid (C2.out.new hc hlo)
      have CU3 := Lib.hid hcu
      clear hcu
      clear hc
      go_wp2_with fail
      have hcu3 := CU3.out
      rw [Hn1.out.2, Hn2.out.2] at hcu3
      rw [Hn1.out.1, Hw4.out]
      have Hcu3 := Lib.hid hcu3
      clear hcu3
      refine (Err_ok c _ _ Hcu3.out rfl).mono ?_
      rintro e W4 ⟨rfl, hc⟩
      have C4 := Lib.hid (C3.out.then hc)
      have CU4 := Lib.hid (Hcu3.out.frame hc)
      clear hc
      go_wp2_with fail
      refine (sizes_any W4).mono ?_
      rintro e W5 ⟨b, rfl, _, hm, hc⟩
      have C5 := Lib.hid (C4.out.then hc)
      have CU5 := Lib.hid (CU4.out.frame hc)
      have Hm := Lib.hid hm
      clear hm
      clear hc
      go_wp2_with ((with_reducible refine getV Tryd.tSzs Hm.out z (.int .i64 q) (by rw [SG.out, Hq2.out]) ?_ ?_ ?_); exact rfl; exact rfl; refine Hid.out ?_)
      refine Lib.hid ?_
      go_wp2
      go_ret3
      exact ⟨C5.out, rfl⟩
    · simp only [if_neg h9]
      have d9 : decide ((l.length : Int) < q) = false := decide_eq_false h9
      have Hg := Lib.hid hg
      have RD := Lib.hid rd
      have Hn1 := Lib.hid hn1
      have Hn2 := Lib.hid hn2
      have Hw4 := Lib.hid hw4
      have Hq2 := Lib.hid hq2
      have Hz := Lib.hid hz
      have Hq := Lib.hid hq
      clear hg rd hn1 hn2 hw4 hq2 hz hq
      go_enter Tryd.func16, Tryd.ntmps16
      go_wp2_with fail
      refine (HNW.out).mono ?_
      rintro e W1 ⟨c, rfl, hlo, hcu, hc⟩
      have C1 : Hid (Chg [] w W1) := Lib.hid (hc)
      have CU1 := Lib.hid hcu
      clear hcu
      clear hc
      go_wp2_with fail
      refine (HN.out c _ 4 W1 CU1.out).mono ?_
      rintro e W2 ⟨rfl, hcu, hc⟩
      have C2 : Hid (Chg [] w W2) := Lib.hid (C1.out.new hc hlo)
      have CU2 := Lib.hid hcu
      clear hcu
      clear hc
      go_wp2_with fail
      refine (HN.out c _ 4 W2 CU2.out).mono ?_
      rintro e W3 ⟨rfl, hcu, hc⟩
      have C3 : Hid (Chg [] w W3) := Lib.hid (C2.out.new hc hlo)
      have CU3 := Lib.hid hcu
      clear hcu
      clear hc
      go_wp2_with fail
      have hcu3 := CU3.out
      rw [Hn1.out.2, Hn2.out.2] at hcu3
      rw [Hn1.out.1, Hw4.out]
      have Hcu3 := Lib.hid hcu3
      clear hcu3
      refine (Err_ok c _ _ Hcu3.out rfl).mono ?_
      rintro e W4 ⟨rfl, hc⟩
      have C4 := Lib.hid (C3.out.then hc)
      have CU4 := Lib.hid (Hcu3.out.frame hc)
      clear hc
      go_wp2_with fail
      refine (sizes_any W4).mono ?_
      rintro e W5 ⟨b, rfl, _, hm, hc⟩
      have C5 := Lib.hid (C4.out.then hc)
      have CU5 := Lib.hid (CU4.out.frame hc)
      have Hm := Lib.hid hm
      clear hm
      clear hc
      go_wp2_with ((with_reducible refine getV Tryd.tSzs Hm.out z (.int .i64 q) (by rw [SG.out, Hq2.out]) ?_ ?_ ?_); exact rfl; exact rfl; refine Hid.out ?_)
      refine Lib.hid ?_
      go_wp2
      go_ret3
      exact ⟨C5.out, c, rfl, hlo, CU5.out⟩
end Go.Proofs.YtgjlgamlmmjdpaaDoor
/- Contracts of the library, proved once in the kit, laid at this seat's program (made by the kit's tools lay-shelf and lay-plain). -/
namespace Go.Proofs
open Go.Shelf
def Tryd.lays187_ren : Go.Shelf.Ren := ⟨fun | 187 => 33 | 255 => 46 | n => n, fun | 37 => 22 | 5 => 5 | 3 => 3 | n => n, fun | n => n⟩
theorem Tryd.lays187 : Go.Proofs.Lays.n187 Tryd.prog Tryd.lays187_ren := {
  mixed := by kernel_rfl
  f187 := Tryd.func33.trans (congrArg some (by kernel_rfl))
  f255 := Tryd.func46.trans (congrArg some (by kernel_rfl))
  t3 := Tryd.underlying3
  a3 := Tryd.isAgg3
  z3 := Tryd.sizeOf3
  v3 := Tryd.zeroValue3
  t5 := Tryd.underlying5
  a5 := Tryd.isAgg5
  z5 := Tryd.sizeOf5
  v5 := Tryd.zeroValue5
  t37 := Tryd.underlying22
  a37 := Tryd.isAgg22
  z37 := Tryd.sizeOf22
  v37 := Tryd.zeroValue22 }
open Go.RowKit Go.Lib in
theorem Tryd.bytes_IndexByte_at (a : Addr) (n c : Nat) (xs : List Int) (cv : Int) (w : World) (hx : xs.length = n) (hc : ∀ i, i < n → w.cell? (a.add i) = some (.int .u8 (xs.getD i 0))) :
    Calls Tryd.prog 33 #[.slice (some a) n c, .int .u8 cv] w fun e w' => e = .returned (.int .i64 (Lib.indexByte (Lib.bytesOf xs) cv.toNat.toUInt8)) ∧ w' = w := Any.bytes_IndexByte_at Tryd.lays187 a n c xs cv w hx hc
end Go.Proofs
/- Bytes as a string; a part of a row of bytes. -/
namespace Go.Proofs.YtgjlgamlmmjdpaaDoor
open Go.RowKit
set_option maxRecDepth 100000

theorem foldl_push' (ns : List Int) (s : ByteArray) : ns.foldl (fun r n => r.push (UInt8.ofNat n.toNat)) s = ⟨s.data ++ (ns.map fun n => UInt8.ofNat n.toNat).toArray⟩ := by
  induction ns generalizing s with
  | nil => simp
  | cons n r ih => simp only [List.foldl_cons, ih]; simp [ByteArray.push]
/-- string(v), v a slice of bytes. -/
theorem run_strB {w : World} {a : Option Addr} {n cap : Nat} {l : List UInt8} (h : byteL.Rd w (.slice a n cap) l) :
    (convert 22 9 (.slice a n cap)).run Tryd.prog w = .ok (.string ⟨l.toArray⟩) w := by
  rw [run_convert_bytes_string (P := Tryd.prog) w 22 9 5 a n cap Tryd.underlying22 Tryd.underlying5 Tryd.underlying9]
  cases a with
  | none =>
    obtain ⟨a', n', cap', he, hn, hnc, hcm, hx⟩ := h
    cases he
    have hnil : l = [] := by
      cases l with
      | nil => rfl
      | cons x r => obtain ⟨b, off, h, _⟩ := hx (by simp); cases h
    subst hnil
    subst hn
    rfl
  | some ad =>
    obtain ⟨hn, hc⟩ := Lay.Rd.cells h
    subst hn
    have hload : (loadCells ad l.length).run Tryd.prog w = .ok ((l.map fun x => (x.toNat : Int)).map (Value.int .u8)).toArray w := by
      have hxs : (l.map fun x => (x.toNat : Int)).map (Value.int .u8) = byteL.vals l := by rw [byte_vals]; simp [Function.comp_def]
      rw [hxs]
      have := run_loadCells_list (P := Tryd.prog) (w := w) ad (byteL.vals l) (fun j u hu => hc j u hu)
      rw [Lay.vals_len, show byteL.n = 1 from rfl, Nat.mul_one] at this
      exact this
    rw [run_bytesToString w ad l.length cap _ hload, foldl_push']
    have e : (l.map fun x => (x.toNat : Int)).map (fun n => UInt8.ofNat n.toNat) = l := by
      rw [List.map_map]
      conv => rhs; rw [← List.map_id l]
      refine List.map_congr_left fun x _ => ?_
      simp
    rw [e]
    simp
/-- A part of a row. -/
theorem Rd_sub {w : World} {b off n cap : Nat} {l : List UInt8} (h : byteL.Rd w (.slice (some ⟨b, off, none⟩) n cap) l) (k m c : Nat) (hk : k + m ≤ l.length) (hm : m ≤ c) (hc : c ≤ maxLen) : byteL.Rd w (.slice (some ⟨b, off + k, none⟩) m c) ((l.drop k).take m) := by
  obtain ⟨a', n', cap', he, hn, _, _, hx⟩ := h
  cases he
  have hl : ((l.drop k).take m).length = m := by rw [List.length_take, List.length_drop]; omega
  refine ⟨_, _, _, rfl, hl.symm, hm, hc, fun hne => ?_⟩
  have hne2 : l ≠ [] := by rintro rfl; simp at hne
  obtain ⟨b', off', e, hb, hcell⟩ := hx hne2
  cases e
  refine ⟨_, _, rfl, hb, fun j hj c hc => ?_⟩
  rw [hl] at hj
  have := hcell (k + j) (by omega) c hc
  have hg : ((l.drop k).take m).getD j byteL.d = l.getD (k + j) byteL.d := by
    simp [List.getD_eq_getElem?_getD, List.getElem?_drop, hj]
  rw [hg, ← this]
  congr 2
  show off + k + j * 1 + c = off + (k + j) * 1 + c
  omega
end Go.Proofs.YtgjlgamlmmjdpaaDoor
