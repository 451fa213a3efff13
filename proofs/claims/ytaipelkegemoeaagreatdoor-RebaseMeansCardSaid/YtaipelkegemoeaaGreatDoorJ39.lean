/- Lemmas, laid together: part 39 of 46. Conditions: none but each lemma's own. -/
import Derived.Test.YtaipelkegemoeaaGreatDoorJ34
import Derived.Test.YtaipelkegemoeaaGreatDoorJ35
/- rebase: step, further by a number. -/
namespace Go.Proofs.YtaipelkegemoeaaGreatDoor
open Go.RowKit
set_option maxRecDepth 100000

set_option maxHeartbeats 2000000 in
theorem step_num3 (b bc : Nat) (r : Rdr) (imm n : Nat) (s : CS) (hi : r.is_ = true) (R : Int → World → Prop) (hc : r.c = some ⟨bc, 0, none⟩) (w : World) (hg : Env w) (hcur : CurB w bc s) (hne : b ≠ bc) (hf : (lebS ulebR s).failed = false) (hv : lebV ulebR s = n) (hb : rdrL.Box w b r)
    (hm : ∀ W, Chg [bc] w W → CurB W bc (lebS ulebR s) → Calls Tryz.prog 50 #[.pointer (some ⟨b, 0, none⟩), .int .u64 n] W fun e w' => ∃ q : Int, e = .returned (.int .i64 q) ∧ R q w') :
    Calls Tryz.prog 26 #[.pointer (some ⟨b, 0, none⟩), .int .u8 3, .int .u8 imm] w fun e w' => ∃ q : Int, e = .returned (.int .i64 q) ∧ R q w' := by
  have HNU := Lib.hid (fun w => numbers_any 3 (by decide) w)
  have HER := Lib.hid (fun w hcur => Err_ok bc (lebS ulebR s) w hcur hf)
  have HRE := Lib.hid (fun w hb => ready_any b r 3 (by decide) w hb)
  have HUL := Lib.hid (fun w hg hcur => Uleb_cur bc s w hg hcur)
  rw [hv] at HUL
  rw [show readyOf 3 r.typ r.is_ = true by rw [hi]; rfl] at HRE
  have Hcur := Lib.hid hcur
  have Hb := Lib.hid hb
  have Hf := Lib.hid hf
  have Hm := Lib.hid hm
  have Hi := Lib.hid hi
  have Hg := Lib.hid hg
  have Hv := Lib.hid hv
  clear hcur hb hf hm hi hg hv
  go_enter Tryz.func26, Tryz.ntmps26
  go_wp2_with fail
  refine (HNU.out _).mono ?_
  rintro e W1 ⟨rfl, h1⟩
  rw [show ((numsOf 3 : Nat) : Int) = 1 from rfl]
  have hA := h1.heap (heap_alloc_eq w (.cells #[.int .u64 0, .int .u64 0] 98)) (by simp)
  have hlt := Hcur.out.lt
  have hbs : b < w.heap.size := Hb.out.lt
  have C1 : Hid (Chg [] w W1) := Lib.hid (((Chg.refl [] w).alloc _).then h1)
  have HA := Lib.hid hA
  clear hA
  clear h1
  go_wp2_with fail
  go_loopw [13] (fun s13 wr => (s13 = .int .i64 0 ∧ wr = W1) ∨ (s13 = .int .i64 1 ∧ Chg [bc] w wr ∧ CurB wr bc (lebS ulebR s) ∧ wr.cell? ⟨w.heap.size, 0, none⟩ = some (.int .u64 n))) (fun s13 _ => 1 - (intOf s13).toNat)
  case atStart => exact .inl ⟨rfl, rfl⟩
  case round =>
    rcases hrel with ⟨rfl, rfl⟩ | ⟨rfl, h1, h2, h3⟩
    · have B1 := Lib.hid (Hb.out.frame C1.out)
      have x0 := Rdr.c_c B1.out
      rw [hc] at x0
      go_wp2_with fail
      refine (HUL.out _ (Hg.out.frame C1.out (by simp)) (Hcur.out.frame C1.out)).mono ?_
      rintro e W2 ⟨rfl, hc2, h2⟩
      have hA2 := h2.heap HA.out (by simp; omega)
      have a0 := cell_of_heap hA2 0
      have f0 := frozen_of_heap hA2 0
      simp at a0
      have C2 : Hid (Chg [bc] w W2) := Lib.hid (C1.out.add.same h2)
      have HC2 := Lib.hid hc2
      clear hc2
      clear h2 hA2 x0
      go_wp2
      go_roundw
      case rel =>
        refine .inr ⟨rfl, C2.out.setCell _ _ (.inr (Nat.le_refl _)), HC2.out.far2 (S := [w.heap.size]) ((Chg.refl _ _).setCell _ _ (.inl (by simp))) (by simp; omega), World.cell?_setCell_same _ _ _ a0⟩
      case measure => simp [intOf]
    · have C1a := Lib.hid h1
      have HC1 := Lib.hid h2
      have A1 := Lib.hid h3
      clear h1 h2 h3
      have BB := Lib.hid (Hb.out.frameS C1a.out (by simp; omega))
      have x0 := Rdr.c_c BB.out
      rw [hc] at x0
      go_wp2_with fail
      refine (HER.out _ HC1.out).mono ?_
      rintro e W2 ⟨rfl, h2⟩
      have C2 := Lib.hid (C1a.out.then h2)
      have HC2 := Lib.hid (HC1.out.frame h2)
      have a2 := h2.cell A1.out (by simp)
      clear h2 x0
      go_wp2_with fail
      refine (HRE.out _ (Hb.out.frameS C2.out (by simp; omega))).mono ?_
      rintro e W3 ⟨rfl, h3⟩
      have C3 := Lib.hid (C2.out.then h3)
      have HC3 := Lib.hid (HC2.out.frame h3)
      have a3 := h3.cell a2 (by simp)
      clear h3 a2
      go_wp2_with fail
      refine (Hm.out _ C3.out HC3.out).mono ?_
      rintro e W4 ⟨q, rfl, h4⟩
      have R4 := Lib.hid h4
      clear h4
      go_wp2
      go_ret
      exact ⟨q, rfl, R4.out⟩
/-- Further by a number. -/
theorem DSt.num3 {w W : World} {B : List UInt8} {c0 : Rdr} {p A : Nat} {typ : Int} {fs : List Fx} {bc b : Nat} (h : DSt w B c0 p A true typ fs bc b W) (hw : Env w) (imm : Nat) {n p' : Nat}
    (hv : lebV ulebR ⟨B, p, false, false⟩ = n ∧ lebS ulebR ⟨B, p, false, false⟩ = ⟨B, p', false, false⟩) (hA : A + n < 18446744073709551616) :
    Calls Tryz.prog 26 #[.pointer (some ⟨b, 0, none⟩), .int .u8 3, .int .u8 imm] W fun e w' => e = .returned (.int .i64 0) ∧ DSt w B c0 p' (A + n) true typ fs bc b w' := by
  obtain ⟨so, h1, h2⟩ := h.box
  have hb := h.hi
  have hlo := h.lo
  refine (step_num3 b bc _ imm n _ rfl (fun q w' => q = 0 ∧ DSt w B c0 p' (A + n) true typ fs bc b w') rfl W h.env h.cur (by omega) (by rw [hv.2]) hv.1 h1 (fun W1 hc1 hcu => ?_)).mono ?_
  · rw [hv.2] at hcu
    have h3 := h.took hw hc1 hcu
    refine (further_ok b _ A n rfl hA W1 (h1.frameS hc1 (by simp; omega))).mono ?_
    rintro e w2 ⟨rfl, hb', hc2⟩
    refine ⟨0, rfl, rfl, h.lo, h.hi, h3.env2 hw hc2 (by simp; omega), hcu.far2 hc2 (by simp; omega), h3.chg2 hc2 (by simp; omega), so, hb', ?_⟩
    exact (h2.frame hc1 (fun i hi hm => by have := (h2.lt i hi).1; simp at hm; omega)).frame hc2 (fun i hi hm => by have := (h2.lt i hi).1; simp at hm; omega)
  · rintro e w2 ⟨q, rfl, rfl, h3⟩
    exact ⟨rfl, h3⟩
end Go.Proofs.YtaipelkegemoeaaGreatDoor
/- Plain: where the reference's reckoning goes beyond, and where it does not. No program in sight. -/
namespace Go.Proofs.YtaipelkegemoeaaGreatDoor
open Go.RowKit

theorem uval_snoc (xs : List Nat) (y : Nat) : uval (xs ++ [y]) = uval xs + 128 ^ xs.length * y := by
  induction xs with
  | nil => simp [uval]
  | cons x r ih => simp only [List.cons_append, uval, ih, List.length_cons, Nat.pow_succ, Nat.mul_add, Nat.mul_comm (128 ^ r.length) 128, Nat.mul_assoc, Nat.add_assoc]
theorem gsOf_length (l : List UInt8) : (gsOf l).length = l.length := by simp [gsOf]
end Go.Proofs.YtaipelkegemoeaaGreatDoor
/- Plain: what stands in a number's shortest bytes, whatever stands behind them. No program in sight. -/
namespace Go.Proofs.YtaipelkegemoeaaGreatDoor
open Go.RowKit

theorem szL_append (f : Nat) : ∀ (r : List UInt8) (b : UInt8) (rest : List UInt8) (i : Nat), i + r.length < 10 → (∀ x ∈ r, 128 ≤ x.toNat) → b.toNat < 128 → r.length ≤ f → szL (r ++ [b] ++ rest) i = i + r.length + 1 := by
  induction f with
  | zero =>
    intro r b rest i hi _ hb hf
    obtain rfl : r = [] := List.eq_nil_of_length_eq_zero (by omega)
    simp only [List.nil_append, List.cons_append, szL, List.length_nil]
    rw [if_neg (by simp at hi; omega), if_pos hb]
  | succ f ih =>
    intro r b rest i hi hr hb hf
    cases r with
    | nil =>
      simp only [List.nil_append, List.cons_append, szL, List.length_nil]
      rw [if_neg (by simp at hi; omega), if_pos hb]
    | cons x r =>
      have hx := hr x (List.mem_cons_self ..)
      simp only [List.length_cons] at hi hf ⊢
      have := ih r b rest (i + 1) (by omega) (fun y hy => hr y (List.mem_cons_of_mem _ hy)) hb (by omega)
      simp only [List.cons_append, szL]
      rw [if_neg (by omega), if_neg (by omega), this]
      omega
theorem gsOf_ten (l : List UInt8) (h : l.length = 10) : uval (gsOf l) = uval ((gsOf l).take 9) + 128 ^ 9 * (gsOf l).getD 9 0 := by
  have hl : (gsOf l).length = 10 := by rw [gsOf_length, h]
  have e : gsOf l = (gsOf l).take 9 ++ [(gsOf l).getD 9 0] := by
    match gsOf l, hl with
    | [a, b, c, d, e, f, g, i, j, k], _ => rfl
  have h9 : ((gsOf l).take 9).length = 9 := by simp [hl]
  calc uval (gsOf l) = uval ((gsOf l).take 9 ++ [(gsOf l).getD 9 0]) := by rw [← e]
    _ = _ := by rw [uval_snoc, h9]
theorem uvalV_put (n : Nat) (hn : n < 18446744073709551616) (rest : List UInt8) : uvalV (putU n ++ rest) = some (n, (putU n).length) := by
  obtain ⟨r, b, e, hb, hr⟩ := putUf_shape 9 n (lt_pow10 n hn)
  have e' : putU n = r ++ [b] := e
  have hlen := (putUf_length 9 n).1
  have hl10 : r.length < 10 := by
    have : (putU n).length ≤ 10 := hlen
    rw [e'] at this; simp at this; omega
  have hs : szL (putU n ++ rest) 0 = (putU n).length := by
    rw [e', szL_append r.length r b rest 0 (by omega) hr hb (Nat.le_refl _)]; simp
  have ht : (putU n ++ rest).take (putU n).length = putU n := by simp
  have hv : uval (gsOf (putU n)) = n := uval_putUf 9 n (lt_pow10 n hn)
  unfold uvalV
  rw [hs, ht, hv, if_neg (by rw [e']; simp), if_neg]
  rintro ⟨h10, h1⟩
  have := gsOf_ten (putU n) h10
  rw [hv] at this
  have h2 : 128 ^ 9 * 2 ≤ 128 ^ 9 * (gsOf (putU n)).getD 9 0 := Nat.mul_le_mul_left _ h1
  omega
end Go.Proofs.YtaipelkegemoeaaGreatDoor
/- Plain: a stream of rebases that was made, as opcodes in a row; the reader's state behind each. No program in sight. -/
namespace Go.Proofs.YtaipelkegemoeaaGreatDoor
open Go.RowKit
set_option maxRecDepth 100000

/-- An opcode, what stands behind it, and the reader's state behind all of it. -/
structure ItR where
  op : Nat
  imm : Nat
  tail : List UInt8
  A : Nat
  is_ : Bool
  typ : Int
  fs : List Fx
def ItR.zero : ItR := ⟨0, 0, [], 0, false, 0, []⟩
def ItR.bytes (x : ItR) : List UInt8 := UInt8.ofNat (16 * x.op + x.imm) :: x.tail
def flatR (L : List ItR) : List UInt8 := L.flatMap ItR.bytes
/-- Where an opcode stands. -/
def itP (L : List ItR) (i : Nat) : Nat := (flatR (L.take i)).length
/-- The state ahead of an opcode. -/
def itS (L : List ItR) : Nat → ItR
  | 0 => .zero
  | i + 1 => L.getD i .zero
theorem drop_getR {α : Type} (l : List α) (k : Nat) (d : α) (h : k < l.length) : l.drop k = l.getD k d :: l.drop (k + 1) := by
  rw [List.drop_eq_getElem_cons h]
  simp [List.getD_eq_getElem?_getD, h]
theorem take_snocR {L : List ItR} {i : Nat} (h : i < L.length) : L.take (i + 1) = L.take i ++ [L.getD i .zero] := by
  rw [List.take_add_one]
  simp [List.getD_eq_getElem?_getD, h]
theorem itP_succ {L : List ItR} {i : Nat} (h : i < L.length) : itP L (i + 1) = itP L i + 1 + (L.getD i .zero).tail.length := by
  unfold itP flatR
  rw [take_snocR h, List.flatMap_append, List.length_append]
  simp [ItR.bytes]
  omega
theorem flat_split {L : List ItR} {i : Nat} (h : i < L.length) (E : List UInt8) : (flatR L ++ E).drop (itP L i) = (L.getD i .zero).bytes ++ (flatR (L.drop (i + 1)) ++ E) := by
  have e : flatR L = flatR (L.take i) ++ flatR (L.drop i) := by
    unfold flatR
    rw [← List.flatMap_append, List.take_append_drop]
  have e2 : L.drop i = L.getD i .zero :: L.drop (i + 1) := by
    rw [List.drop_eq_getElem_cons h]
    simp [List.getD_eq_getElem?_getD, h]
  rw [e, List.append_assoc]
  unfold itP
  rw [List.drop_left, e2]
  unfold flatR
  rw [List.flatMap_cons, List.append_assoc]
theorem itP_le {L : List ItR} (i : Nat) : itP L i ≤ (flatR L).length := by
  unfold itP flatR
  have e := congrArg (fun M : List ItR => (M.flatMap ItR.bytes).length) (List.take_append_drop i L)
  simp only [List.flatMap_append, List.length_append] at e
  omega
/-- A number that stands in a stream. -/
theorem leb_at (B : List UInt8) (k n : Nat) (hn : n < 18446744073709551616) (r : List UInt8) (h : B.drop k = putU n ++ r) :
    lebV ulebR ⟨B, k, false, false⟩ = n ∧ lebS ulebR ⟨B, k, false, false⟩ = ⟨B, k + (putU n).length, false, false⟩ := by
  have hv := uvalV_put n hn r
  constructor
  · simp only [lebV, Bool.false_eq_true, if_false, ulebR_eq, h, hv]; rfl
  · simp only [lebS, Bool.false_eq_true, if_false, ulebR_eq, h, hv]; rfl
/-- What an opcode makes of the state ahead of it. -/
def StepR (ls : List Seg) (sl : List UInt8) (st x : ItR) : Prop :=
  (x.op = 1 ∧ x.imm < 16 ∧ x.tail = [] ∧ x.A = st.A ∧ x.is_ = st.is_ ∧ x.typ = x.imm ∧ x.fs = st.fs) ∨
  (x.op = 2 ∧ x.imm < 16 ∧ (∃ n : Nat, n < 18446744073709551616 ∧ x.tail = putU n ∧ placeS ls x.imm n = ((x.A : Int), 0)) ∧ x.is_ = true ∧ x.typ = st.typ ∧ x.fs = st.fs) ∨
  (x.op = 3 ∧ x.imm = 0 ∧ st.is_ = true ∧ (∃ n : Nat, n < 18446744073709551616 ∧ x.tail = putU n ∧ x.A = st.A + n ∧ st.A + n < 18446744073709551616) ∧ x.is_ = true ∧ x.typ = st.typ ∧ x.fs = st.fs) ∨
  (x.op = 5 ∧ x.imm < 16 ∧ x.imm ≠ 0 ∧ x.tail = [] ∧ st.is_ = true ∧ st.typ = 1 ∧ x.is_ = true ∧ x.typ = 1 ∧ x.A = st.A + 8 * x.imm ∧ st.A + 8 * x.imm < 18446744073709551616 ∧ (∀ j, j < x.imm → writS ls ((st.A + 8 * j : Nat) : Int) 8 = true) ∧ st.fs.length + x.imm ≤ 20000 ∧ x.fs = st.fs ++ rebW ls sl st.A x.imm) ∨
  (x.op = 6 ∧ x.imm = 0 ∧ st.is_ = true ∧ st.typ = 1 ∧ x.is_ = true ∧ x.typ = 1 ∧ ∃ n : Nat, x.tail = putU n ∧ x.A = st.A + 8 * n ∧ st.A + 8 * n < 18446744073709551616 ∧ (∀ j, j < n → writS ls ((st.A + 8 * j : Nat) : Int) 8 = true) ∧ st.fs.length + n ≤ 20000 ∧ x.fs = st.fs ++ rebW ls sl st.A n)
theorem StepR.op {ls : List Seg} {sl : List UInt8} {st x : ItR} (h : StepR ls sl st x) : x.op ≠ 0 ∧ x.op < 16 ∧ x.imm < 16 := by
  rcases h with h | h | h | h | h
  · rw [h.1]; exact ⟨by decide, by decide, h.2.1⟩
  · rw [h.1]; exact ⟨by decide, by decide, h.2.1⟩
  · rw [h.1, h.2.1]; decide
  · rw [h.1]; exact ⟨by decide, by decide, h.2.1⟩
  · rw [h.1, h.2.1]; decide
/-- A row of opcodes is read so. -/
theorem row_items (L : List ItR) (w : World) (hw : Env w) (slv : SlV) (m : Img) (ls : List Seg) (sl : List UInt8) (hd : DIn w { Rdr.zero with sl := slv, m := m } ls sl) (hok : ∀ i, i < L.length → StepR ls sl (itS L i) (L.getD i .zero)) :
    DRow w (flatR L ++ [0]) { Rdr.zero with sl := slv, m := m } (itP L) (fun i => (L.getD i .zero).op) (fun i => (L.getD i .zero).imm) L.length 0 (fun _ b' i so W => FB W (b' + 1) so.v (itS L i).fs) (fun bc b' i W => DSt w (flatR L ++ [0]) { Rdr.zero with sl := slv, m := m } (itP L i) (itS L i).A (itS L i).is_ (itS L i).typ (itS L i).fs bc b' W) := by
  have hend : itP L L.length = (flatR L).length := by unfold itP; rw [List.take_length]
  have hget : ∀ i, i < L.length → (flatR L ++ [0]).getD (itP L i) 0 = UInt8.ofNat (16 * (L.getD i .zero).op + (L.getD i .zero).imm) := fun i hi => by
    have h := flat_split hi [0]
    have h2 : ((flatR L ++ [0]).drop (itP L i))[0]? = some (UInt8.ofNat (16 * (L.getD i .zero).op + (L.getD i .zero).imm)) := by rw [h]; rfl
    rw [List.getElem?_drop, Nat.add_zero] at h2
    rw [List.getD_eq_getElem?_getD, h2]
    rfl
  refine ⟨fun bc b' W h1 h2 h3 h4 h5 => DSt.start hw h1 h2 h3 h4 h5, rfl, fun bc b' i W hs => hs.isR, fun i => ?_, fun i hi => ?_, fun i hi hl => ?_, fun i hi => (hok i hi).op.1, fun bc b' i W0 W hi hs k hc => ?_, ?_⟩
  · have := itP_le (L := L) i
    rw [List.length_append]
    omega
  · have h1 := itP_succ hi
    have h2 := itP_le (L := L) (i + 1)
    rw [List.length_append]
    omega
  · by_cases h : i < L.length
    · have h1 := (hok i h).op
      rw [hget i h]
      refine ⟨?_, h1.2.1, h1.2.2⟩
      rw [UInt8.toNat_ofNat']
      omega
    · obtain rfl : i = L.length := by omega
      have e : L.getD L.length .zero = ItR.zero := by simp [List.getD_eq_getElem?_getD]
      rw [e, hend]
      refine ⟨?_, by decide, by decide⟩
      rw [List.getD_eq_getElem?_getD, List.getElem?_append_right (Nat.le_refl _)]
      simp
      rfl
  · have ht := hs.took hw k hc
    have hsp := flat_split hi [0]
    have hps := itP_succ hi
    have hdr : (flatR L ++ [0]).drop (itP L i + 1) = (L.getD i .zero).tail ++ (flatR (L.drop (i + 1)) ++ [0]) := by
      rw [← List.drop_drop, hsp]
      rfl
    have hst := hok i hi
    show Calls _ _ _ _ fun e w' => e = .returned (.int .i64 0) ∧ DSt w (flatR L ++ [0]) _ (itP L (i + 1)) (L.getD i .zero).A (L.getD i .zero).is_ (L.getD i .zero).typ (L.getD i .zero).fs bc b' w'
    rw [hps]
    generalize L.getD i .zero = x at *
    generalize itS L i = st at *
    rcases hst with ⟨e1, e2, e3, e4, e5, e6, e7⟩ | ⟨e1, e2, ⟨n, hn, e3, e4⟩, e5, e6, e7⟩ | ⟨e1, e2, e0, ⟨n, hn, e3, e4, e4b⟩, e5, e6, e7⟩ | ⟨e1, e2, e3, e4, e5, e6, e7, e8, e9, e10, e11, e12, e13⟩ | ⟨e1, e2, e3, e4, e5, e6, n, e7, e8, e9, e10, e11, e12⟩
    · rw [e1, e3, e4, e5, e6, e7]
      exact ht.typ1 hw x.imm
    · rw [e3] at hdr ⊢
      rw [e1, e5, e6, e7]
      have := leb_at _ _ n hn _ hdr
      exact ht.place2 hw hd x.imm (by omega) this e4
    · rw [e3] at hdr ⊢
      rw [e0] at ht
      rw [e1, e2, e4, e5, e6, e7]
      have := leb_at _ _ n hn _ hdr
      exact ht.num3 hw 0 this e4b
    · rw [e5, e6] at ht
      rw [e1, e4, e7, e8, e9, e13]
      exact ht.imm5 hw hd x.imm (by omega) e10 e11 e12 e3
    · rw [e7] at hdr ⊢
      rw [e3, e4] at ht
      rw [e1, e2, e5, e6, e8, e12]
      have := leb_at _ _ n (by omega) _ hdr
      exact ht.num6 hw hd 0 this e9 e10 e11
  · exact .inl ⟨rfl, fun _ => by simp [List.getD_eq_getElem?_getD]; rfl⟩
end Go.Proofs.YtaipelkegemoeaaGreatDoor
