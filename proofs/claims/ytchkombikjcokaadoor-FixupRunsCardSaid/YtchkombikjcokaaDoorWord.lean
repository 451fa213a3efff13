/- A strings.Builder of the call's own, written byte by byte; fixup.word of a plain symbol. -/
import Derived.Test.YtchkombikjcokaaDoorShelfB
import Derived.Test.YtchkombikjcokaaDoorHex
namespace Go.Proofs.YtchkombikjcokaaDoor
open Go.RowKit
set_option maxRecDepth 100000

/-- A builder in block b, whose bytes lie from base on. -/
def Bld (w : World) (b base : Nat) (v : Value) (l : List UInt8) : Prop :=
  (∃ p, (p = .pointer none ∨ p = .pointer (some ⟨b, 0, none⟩)) ∧ w.heap[b]? = some (.cells #[p, v] 176 (0, 0))) ∧ Buf w base v l ∧ b < base

theorem copy_any (w : World) (b : Nat) (p v : Value) (hp : p = .pointer none ∨ p = .pointer (some ⟨b, 0, none⟩)) (h : w.heap[b]? = some (.cells #[p, v] 176 (0, 0))) :
    Calls Tryd.prog 115 #[.pointer (some ⟨b, 0, none⟩)] w fun e w' => e = .returned (.tuple #[]) ∧ w'.heap[b]? = some (.cells #[.pointer (some ⟨b, 0, none⟩), v] 176 (0, 0)) ∧ Chg [b] w w' := by
  have h0 := cell_of_heap h 0
  have hfz := frozen_of_heap h 0
  simp at h0
  have hsh : w.shape? b = some (176, 2) := by simp [World.shape?, h]
  obtain ⟨j, hj, hjs⟩ := Option.map_eq_some_iff.1 Tryd.Builder_Extra_169.toX72.sizeBuilder
  rcases hp with rfl | rfl
  · have HH := Lib.hid (h)
    have HJ := Lib.hid (hj)
    have HJS := Lib.hid (hjs)
    have HSH := Lib.hid (hsh)
    clear h hj hjs hsh
    go_enter Tryd.func115, Tryd.ntmps115
    go_wp2
    rw [Lib.run_to_unsafe w ⟨b, 0, none⟩ Tryd.underlying174 Tryd.underlying155 HJ.out (by rw [HJS.out]; decide) HSH.out (Nat.zero_lt_succ 1)]
    simp only [Result.andThen]
    rw [Oper.upon_value]
    go_wp2
    rw [run_callFunc_extern Tryd.func122 (by kernel_rfl) (by kernel_rfl) (by kernel_rfl) (e := Extern.AbiNoEscape.same) (by kernel_rfl)]
    rw [Lib.run_noEscape]
    simp only [Result.andThen]
    rw [Oper.upon_value]
    go_wp2
    rw [Lib.run_from_unsafe w ⟨b, 0, none⟩ Tryd.underlying155 Tryd.underlying174 HJ.out HSH.out Tryd.Builder_Extra_169.toX72.liesBuilder]
    simp only [Result.andThen]
    rw [Oper.upon_value]
    go_wp2
    go_end0
    exact ⟨rfl, heap_setCell HH.out 0 _, (Chg.refl _ _).setCell _ _ (.inl (by simp))⟩
  · have HH := Lib.hid (h)
    have HJ := Lib.hid (hj)
    clear h hj hjs hsh
    go_enter Tryd.func115, Tryd.ntmps115
    go_wp2
    rw [Lib.run_neq_ptr_same w _ Tryd.underlying174 HJ.out]
    go_wp2
    go_end0
    exact ⟨rfl, HH.out, Chg.refl _ _⟩

set_option maxHeartbeats 1000000 in
theorem WriteByte_any (w : World) (b base : Nat) (v : Value) (l : List UInt8) (c : UInt8) (h : Bld w b base v l) (hbase : base ≤ w.heap.size) (hl : l.length ≤ 70368744177664) :
    Calls Tryd.prog 104 #[.pointer (some ⟨b, 0, none⟩), .int .u8 (c.toNat : Nat)] w fun e w' => e = .returned .nilIface ∧ ∃ v', Bld w' b base v' (l ++ [c]) ∧ (∀ w0, Chg [b] w0 w → w0.heap.size ≤ base → Chg [b] w0 w') := by
  obtain ⟨⟨p, hp, hb⟩, hbuf, hlt⟩ := h
  have HC := Lib.hid (copy_any w b p v hp hb)
  have Hbuf := Lib.hid hbuf
  have Hbase := Lib.hid hbase
  have Hl := Lib.hid hl
  have Hlt := Lib.hid hlt
  have Hp := Lib.hid hp
  have Hb := Lib.hid hb
  clear hbuf hbase hl hlt hp hb
  go_enter Tryd.func104, Tryd.ntmps104
  go_wp2_with fail
  refine (HC.out).mono ?_
  rintro e w1 ⟨rfl, hb1, hc1⟩
  have HNB : Hid (∀ k, v.ownBlock = some k → k ∉ [b]) := by
    refine Lib.hid ?_
    intro k hk hm
    have := (World.ownsRow.lt Hbuf.out k hk).1
    rw [List.mem_singleton] at hm
    have := Hlt.out
    omega
  have HBUF := Lib.hid (Hbuf.out.frame hc1 HNB.out)
  have q1 := cell_of_heap hb1 1
  simp at q1
  have Hb1 := Lib.hid hb1
  have Hc1 := Lib.hid hc1
  clear hb1 hc1
  go_wp2_with (at_builtin; refine app_buf rfl _ _ rfl base v l rfl (HBUF.out.pure ((Chg.refl [] w1).alloc _)) _ rfl [c] (Rd_one w1 c _) (by have := Hl.out; simp only [List.length_cons, List.length_nil]; omega) (by have := Hbase.out; have := Hc1.out.size; simp only [World.alloc, Array.size_push]; omega) ?_; intro va wa hoa hga haa; refine Hid.out ?_)
  refine Lib.hid ?_
  obtain ⟨aA, cA, hva⟩ := hoa.form
  generalize (l ++ [c]).length = nA at hva
  subst hva
  have hcw := Chg.of_grown hga
  have hbwa : wa.heap[b]? = some (.cells #[.pointer (some ⟨b, 0, none⟩), v] 176 (0, 0)) := by
    have hh := ((Chg.refl [] w1).alloc (.cells #[.int .u8 (c.toNat : Nat)] 5)).heap Hb1.out (by simp)
    refine hcw.heap hh (fun hm => ?_)
    exact HNB.out b (by simpa using hm) (by simp)
  have q2 := cell_of_heap hbwa 1
  have f2 := frozen_of_heap hbwa 1
  simp at q2
  have Hcw := Lib.hid hcw
  have Hbwa := Lib.hid hbwa
  have Hoa := Lib.hid hoa
  have Hga := Lib.hid hga
  have Haa := Lib.hid haa
  clear hcw hbwa hoa hga haa
  go_wp2
  go_ret
  refine ⟨rfl, _, ⟨⟨_, .inr rfl, heap_setCell Hbwa.out 1 _⟩, Hoa.out.frame ((Chg.refl [b] wa).setCell ⟨b, 1, none⟩ _ (.inl (by simp))) (fun k hk hm => ?_), Hlt.out⟩, fun w0 k0 hk0 => ?_⟩
  · have := (World.ownsRow.lt Hoa.out k hk).1
    rw [List.mem_singleton] at hm
    have := Hlt.out
    omega
  · refine (Chg.trans (((k0.same Hc1.out)).alloc _) Hcw.out (fun i hm hi => ?_)).setCell _ _ (.inl (by simp))
    have := (World.ownsRow.lt Hbuf.out i (by simpa using hm)).1
    omega

def plainB (c : UInt8) : Bool := decide (33 ≤ c.toNat) && decide (c.toNat ≤ 126) && decide (c.toNat ≠ 37)
theorem plain_any (c : UInt8) (h : plainB c = true) (w : World) : Calls Tryd.prog 103 #[.int .u8 (c.toNat : Nat)] w fun e w' => e = .returned (.bool true) ∧ w' = w := by
  unfold plainB at h
  simp only [Bool.and_eq_true, decide_eq_true_eq] at h
  obtain ⟨⟨h1, h2⟩, h3⟩ := h
  have e : (((c.toNat : Nat) : Int) != 37) = true := by simp; omega
  go_enter Tryd.func103, Tryd.ntmps103
  go_wp2
  go_ret
  exact ⟨rfl, rfl⟩

set_option maxHeartbeats 2000000 in
theorem word_plain (l : List UInt8) (hl : l.length ≤ 1000000) (hp : ∀ c ∈ l, plainB c = true) (w : World) :
    Calls Tryd.prog 80 #[.string ⟨l.toArray⟩] w fun e w' => e = .returned (.string ⟨l.toArray⟩) ∧ Chg [] w w' := by
  have HP := Lib.hid (hp)
  clear hp
  go_enter Tryd.func80, Tryd.ntmps80
  go_wp2_with fail
  rw [Lib.run_convert_string_bytes (P := Tryd.prog) _ 9 24 5 _ Tryd.underlying9 Tryd.underlying24 Tryd.underlying5]
  simp only [Result.andThen_ok]
  rw [Oper.upon_value]
  have hls : (⟨l.toArray⟩ : ByteArray).size = l.length := by simp [ByteArray.size]
  rw [hls]
  generalize hw1 : w.alloc _ = w1
  have HC1 : Hid (Chg [] w w1) := by
    refine Lib.hid ?_
    rw [← hw1]; exact (Chg.refl _ _).alloc _
  have HB1 : Hid (w1.heap[w.heap.size]? = some (.cells #[.pointer none, .slice none 0 0] 176 (0, 0))) := by
    refine Lib.hid ?_
    rw [← hw1]; exact heap_alloc_new _ _
  clear hw1 hls
  generalize hwB : Lib.bytesWorld w1 5 ⟨l.toArray⟩ = wB
  generalize hcap : grownCap w1 l.length 0 5 = cB
  generalize hg : w1.heap.size = g
  have HCB : Hid (Chg [] w1 wB) := Lib.hid (by rw [← hwB]; exact bytesWorld_chg _ _)
  have HRB : Hid (Rd wB (.slice (some ⟨g, 0, none⟩) l.length cB) (bytesV l)) := by
    refine Lib.hid ?_
    rw [← hwB, ← hcap, ← hg]; exact (bytesWorld_buf w1 l (by omega)).rd
  have HBB : Hid (Bld wB w.heap.size wB.heap.size (.slice none 0 0) []) := by
    refine Lib.hid ?_
    refine ⟨⟨_, .inl rfl, HCB.out.heap HB1.out (by simp)⟩, Buf.nil _ _, ?_⟩
    have := HCB.out.size
    have := lt_of_heap HB1.out
    omega
  have HGN : Hid (w.heap.size ≠ g) := by
    refine Lib.hid ?_
    have := lt_of_heap HB1.out
    omega
  clear hwB hcap hg HB1
  go_wp2_with fail
  go_loopw [5, 9] (fun s5 s9 wr => ∃ (k : Nat) (v : Value), k ≤ l.length ∧ s9 = .int .i64 (k : Int) ∧ Bld wr w.heap.size wB.heap.size v (l.take k) ∧ Chg [w.heap.size] wB wr) (fun _ s9 _ => l.length - (intOf s9).toNat)
  case atStart => exact ⟨0, _, Nat.zero_le _, rfl, HBB.out, Chg.refl _ _⟩
  case round =>
    obtain ⟨k, v, hk, rfl, hb, hc⟩ := hrel
    have HB := Lib.hid hb
    have Hc := Lib.hid hc
    clear hb hc
    by_cases hlt : k < l.length
    · obtain ⟨c, hcd⟩ : ∃ c, c = l.getD k 0 := ⟨_, rfl⟩
      have hcell : wr.cell? ⟨g, k, none⟩ = some (.int .u8 (c.toNat : Nat)) := by
        obtain ⟨hl', hx⟩ := Rd_bytes_cells HRB.out
        have := hx k _ (bytesV_get l k hlt)
        rw [Addr_add, Nat.zero_add] at this
        rw [hcd]
        exact Hc.out.cell this (by have := HGN.out; simp; omega)
      have HPL : Hid (plainB c = true) := by
        refine Lib.hid ?_
        rw [hcd]
        exact HP.out _ (by simp [List.getD_eq_getElem?_getD, hlt])
      have HTK : Hid (l.take (k + 1) = l.take k ++ [c]) := Lib.hid (by rw [hcd]; exact getD_take l 0 k hlt)
      clear hcd
      go_wp2_with fail
      refine (plain_any _ HPL.out _).mono ?_
      rintro e w' ⟨rfl, rfl⟩
      go_wp2_with fail
      refine (WriteByte_any _ w.heap.size wB.heap.size v (l.take k) c HB.out Hc.out.size (by rw [List.length_take]; omega)).mono ?_
      rintro e w2 ⟨rfl, v2, hb2, hc2⟩
      have HB2 : Hid (Bld w2 w.heap.size wB.heap.size v2 (l.take (k + 1))) := Lib.hid (by rw [HTK.out]; exact hb2)
      have HC2 := Lib.hid (hc2 wB Hc.out (Nat.le_refl _))
      clear hb2 hc2
      go_wp2
      go_roundw
      case rel => exact ⟨k + 1, v2, hlt, by go_num, HB2.out, HC2.out⟩
      case measure => simp [intOf]; omega
    · obtain rfl : k = l.length := by omega
      rw [List.take_length] at HB
      have hB2 : Lib.IsBuilder 176 5 w.heap.size w.heap.size (Lib.byteCells l) wr := by
        obtain ⟨⟨p, hp, hq⟩, hbf, hlt2⟩ := HB.out
        have hA : Lib.BuilderAt 176 5 w.heap.size w.heap.size p (Lib.byteCells l) wr := by
          refine ⟨Nat.le_refl _, v, hq, ?_, fun e => ?_⟩
          · have h1 := Buf.mono hbf (Nat.le_of_lt hlt2)
            unfold Buf at h1
            rw [show (Lib.byteCells l).length = l.length by simp [Lib.byteCells]]
            exact h1
          · have := (World.ownsRow.lt hbf _ e).1
            omega
        rcases hp with rfl | rfl
        · exact .inl hA
        · exact .inr hA
      have hsz : w.heap.size ≤ wr.heap.size := by have := Hc.out.size; have := HCB.out.size; have := HC1.out.size; omega
      have HST := Lib.hid (Tryd.Builder_String_any w.heap.size w.heap.size l wr hB2 hsz)
      clear hB2 hsz
      go_wp2_with fail
      refine (HST.out).mono ?_
      rintro e w2 ⟨rfl, hb2⟩
      have HFIN : Hid (Chg [] w w2) := by
        refine Lib.hid ?_
        have k1 := ((HC1.out.then HCB.out).new Hc.out (Nat.le_refl _))
        exact ⟨hb2.os.trans k1.os, hb2.tape.trans k1.tape, hb2.output.trans k1.output, Nat.le_trans k1.size hb2.size, fun i hi hn => (hb2.block i hi).trans (k1.block i hi hn)⟩
      clear hb2
      go_wp2
      go_ret
      exact ⟨rfl, HFIN.out⟩
end Go.Proofs.YtchkombikjcokaaDoor
