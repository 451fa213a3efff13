/- Lemmas, laid together: part 32 of 35. Conditions: none but each lemma's own. -/
import Derived.Test.YtlblcbgmmfjdjaaGreatDoorJ27
import Derived.Test.YtlblcbgmmfjdjaaGreatDoorJ22
import Derived.Test.YtlblcbgmmfjdjaaGreatDoorJ23
import Derived.Test.YtlblcbgmmfjdjaaGreatDoorJ31
/- leb.Put and leb.PutSigned, walked. -/
namespace Go.Proofs.YtlblcbgmmfjdjaaGreatDoor
open Go.RowKit

theorem cell_one_new' (w : World) (v : Value) (T : TypeId) : ∀ j u, [v][j]? = some u → (w.alloc (.cells #[v] T)).cell? ((⟨w.heap.size, 0, none⟩ : Addr).add j) = some u := by
  intro j u hj
  match j, hj with
  | 0, hj => simp at hj; subst hj; simp [Addr.add]
theorem one_int (k : IntKind) (n : Int) : ∀ u ∈ [Value.int k n], u.oneCell' = true := by
  intro u hu; simp at hu; subst hu; rfl
set_option maxRecDepth 100000 in
theorem Put_any (n : Nat) (w : World) (hn : n < 18446744073709551616) :
    Calls Tryz.prog 17 #[.int .u64 n] w fun e w' => ∃ v, e = .returned v ∧ w'.ownsRow w.heap.size 5 1 v (putU n).length (bytesV (putU n)) ∧ Chg [] w w' := by
  obtain ⟨i0, hi, hz0, hz1, hz2⟩ := info_parts Tryz.infoU8
  have HN := Lib.hid hn
  clear hn
  go_enter Tryz.func17, Tryz.ntmps17
  go_wp2
  go_loopw [0, 3] (fun s0 v wr => ∃ (m f : Nat) (l : List UInt8), s0 = .int .u64 m ∧ m < 128 ^ (f + 1) ∧ f ≤ 9 ∧ m < 18446744073709551616 ∧ l.length + f = 9 ∧ l ++ putUf f m = putU n ∧ wr.ownsRow w.heap.size 5 1 v l.length (bytesV l) ∧ Chg [] w wr) (fun s0 _ _ => (intOf s0).toNat)
  case atStart => exact ⟨n, 9, [], rfl, by have := HN.out; omega, by omega, HN.out, rfl, rfl, World.ownsRow_nil _ _ _ _, Chg.refl _ _⟩
  case round =>
    obtain ⟨m, f, l, rfl, hm, hf, hm64, hl, hput, hown, hchg⟩ := hrel
    have HP := Lib.hid hput
    have HC := Lib.hid hchg
    have HL := Lib.hid hl
    have HM := Lib.hid hm
    have HM64 := Lib.hid hm64
    have hsz := hchg.size
    clear hput hchg hl hm hm64
    by_cases h128 : 128 ≤ m
    · obtain ⟨x, hx⟩ : ∃ x : Nat, x = m % 128 + 128 := ⟨_, rfl⟩
      have hE : bits .or .u8 ((m : Int) % 256) 128 = (x : Int) := by
        rw [hx, show (m : Int) % 256 = ((m % 256 : Nat) : Int) from by omega]
        have := u8_or_nat (m % 256) 128 (by omega) (by decide)
        rw [show ((128 : Nat) : Int) = 128 from rfl] at this
        rw [this, or128 (m % 256) (by omega)]
        omega
      have HX := Lib.hid hx
      clear hx
      go_wp2_with (at_builtin; refine wpList_append_own _ rfl _ _ 35 rfl w.heap.size 5 i0 (.int .u8 0) 1 1 Tryz.underlying35 hi hz0 hz1 hz2 rfl (by decide) _ _ _ rfl (hown.alloc _) ⟨wr.heap.size, 0, none⟩ 1 1 [.int .u8 x] rfl rfl ?c1 ?c2 ?c3 ?c4 ?c5 ?_)
      case c1 =>
        intro j u hj
        match j, hj with
        | 0, hj => simp at hj; subst hj; simp [Addr.add]
      case c2 => intro u hu; simp at hu; subst hu; rfl
      case c3 => have := HL.out; unfold maxLen; omega
      case c4 => have := HL.out; omega
      case c5 => simp; omega
      intro v' w1 hown' hgrow _
      have HO := Lib.hid hown'
      have HGR := Lib.hid hgrow
      have HLT := Lib.hid hown.lt
      clear hown' hgrow hown
      go_wp2
      go_roundw
      case rel =>
        have h9 : 0 < f := by
          rcases Nat.eq_zero_or_pos f with h0 | h0
          · exfalso; have := HM.out; rw [h0] at this; omega
          · exact h0
        obtain ⟨f', rfl⟩ : ∃ f', f = f' + 1 := ⟨f - 1, by omega⟩
        refine ⟨m / 128, f', l ++ [UInt8.ofNat x], by go_num, ?_, by omega, by have := HM64.out; omega, by have := HL.out; simp; omega, ?_, ?_, ?_⟩
        · have := HM.out
          rw [Nat.pow_succ] at this
          omega
        · rw [← HP.out, putUf_step f' m h128, HX.out]; simp
        · have := HO.out
          rw [show bytesV (l ++ [UInt8.ofNat x]) = bytesV l ++ [.int .u8 x] from ?_, List.length_append]
          · exact this
          · have := HX.out
            have e : (UInt8.ofNat x).toNat = x := by simp; omega
            simp [bytesV, byteV, e]
        · exact (HC.out.alloc _).grown HGR.out (fun k hk => .inr (HLT.out k hk).1)
      case measure => simp [intOf]; omega
    · have HX : Hid (m < 128) := Nat.lt_of_not_le h128
      go_wp2_with (at_builtin; refine wpList_append_own _ rfl _ _ 35 rfl w.heap.size 5 i0 (.int .u8 0) 1 1 Tryz.underlying35 hi hz0 hz1 hz2 rfl (by decide) _ _ _ rfl (hown.alloc _) ⟨wr.heap.size, 0, none⟩ 1 1 [.int .u8 m] rfl rfl ?c1 ?c2 ?c3 ?c4 ?c5 ?_)
      case c1 =>
        intro j u hj
        match j, hj with
        | 0, hj => simp at hj; subst hj; simp [Addr.add]
      case c2 => intro u hu; simp at hu; subst hu; rfl
      case c3 => have := HL.out; unfold maxLen; omega
      case c4 => have := HL.out; omega
      case c5 => simp; omega
      intro v' w1 hown' hgrow _
      have HO := Lib.hid hown'
      have HGR := Lib.hid hgrow
      have HLT := Lib.hid hown.lt
      clear hown' hgrow hown
      go_wp2
      go_ret
      have e1 : putU n = l ++ [UInt8.ofNat m] := by rw [← HP.out, putUf_small f m HX.out]
      refine ⟨_, rfl, ?_, (HC.out.alloc _).grown HGR.out (fun k hk => .inr (HLT.out k hk).1)⟩
      have := HO.out
      rw [e1, show bytesV (l ++ [UInt8.ofNat m]) = bytesV l ++ [.int .u8 m] from ?_, List.length_append]
      · exact this
      · have := HX.out
        have e : (UInt8.ofNat m).toNat = m := by simp; omega
        simp [bytesV, byteV, e]
end Go.Proofs.YtlblcbgmmfjdjaaGreatDoor
/- rebase.Make's closure: an opcode and a number. -/
namespace Go.Proofs.YtlblcbgmmfjdjaaGreatDoor
open Go.RowKit
set_option maxRecDepth 100000

/-- A slice's own cell. -/
def svL : Lay SlV := ⟨1, fun s => [.slice s.a s.n s.cap], ⟨none, 0, 0⟩, fun _ => rfl, by decide, fun x u hu => by
  simp only [List.mem_singleton] at hu
  subst hu
  rfl⟩
theorem svL.c {w : World} {b : Nat} {s : SlV} (h : svL.Box w b s) : w.cell? ⟨b, 0, none⟩ = some (.slice s.a s.n s.cap) := h.in 0 (by decide)
theorem svL.set {w : World} {b : Nat} {s : SlV} (h : svL.Box w b s) (x : SlV) : svL.Box (w.setCell ⟨b, 0, none⟩ (.slice x.a x.n x.cap)) b x := Lay.Box.set h 0 _ _ rfl
theorem BB_shape {w : World} {base : Nat} {v : Value} {l : List UInt8} (h : BB w base v l) : ∃ so : SlV, v = so.v := by
  obtain ⟨a, c, he, _⟩ := h.rd.shape
  exact ⟨⟨a, l.length, c⟩, he⟩
theorem bytesV_vals (l : List UInt8) : bytesV l = byteL.vals l := by
  induction l with
  | nil => rfl
  | cons x r ih =>
    rw [show byteL.vals (x :: r) = [Value.int .u8 x.toNat] ++ byteL.vals r from rfl, ← ih]
    rfl
theorem bb_put {w : World} {base : Nat} {v : Value} {n : Nat} (h : w.ownsRow base 5 1 v (putU n).length (bytesV (putU n))) : byteL.Rd w v (putU n) := by
  rw [bytesV_vals] at h
  exact Lay.Buf.rd (E := 5) h
set_option maxHeartbeats 4000000 in
theorem mput_any (op n : Nat) (hop : op < 256) (hn : n < 18446744073709551616) (p base : Nat) (so : SlV) (l : List UInt8) (hl : l.length ≤ 1000000) (w : World) (hp : svL.Box w p so) (hb : BB w base so.v l) (hpb : p ∉ so.v.ownBlock.toList) (hbw : base ≤ w.heap.size) :
    Calls Tryz.prog 16 #[.int .u8 op, .int .u64 n, .pointer (some ⟨p, 0, none⟩)] w fun e w' => e = .returned (.tuple #[]) ∧ ∃ so' : SlV, svL.Box w' p so' ∧ BB w' base so'.v (l ++ UInt8.ofNat op :: putU n) ∧ Chg (p :: so.v.ownBlock.toList) w w' ∧ Loc w so.v so'.v ∧ p ∉ so'.v.ownBlock.toList := by
  have HPU := Lib.hid (fun w => Put_any n w hn)
  have Q : Hid ([Value.int .u8 op] = byteL.vals [UInt8.ofNat op]) := by
    refine Lib.hid ?_
    rw [Lay.vals_single]
    show [Value.int .u8 op] = [Value.int .u8 ((UInt8.ofNat op).toNat : Nat)]
    rw [UInt8.toNat_ofNat', Nat.mod_eq_of_lt hop]
  have hpl : (putU n).length ≤ 10 := (putUf_length 9 n).1
  have x0 := svL.c hp
  have hpl2 := hp.lt
  have Hp := Lib.hid hp
  have Hb := Lib.hid hb
  clear hp hb
  go_enter Tryz.func16, Tryz.ntmps16
  go_wp2_with (at_builtin; refine Lay.app (L := byteL) Tryz.infoByte rfl _ _ rfl base so.v l rfl (Hb.out.pure ((Chg.refl _ _).alloc _)) _ rfl [UInt8.ofNat op] (Lay.Rd.of_heap (heap_alloc_eq _ _) Q.out rfl (show 1 ≤ maxLen by decide)) (by simp; omega) (by simp; omega) (Nat.le_trans hbw (by simp)) ?_; intro v1 W1 hov hgv hlc; refine Hid.out ?_)
  refine Lib.hid ?_
  have C1 : Hid (Chg so.v.ownBlock.toList w W1) := Lib.hid (((Chg.refl _ _).alloc _).trans (Lay.chg_grown hgv) (fun i hi _ => hi))
  have L1 : Hid (Loc w so.v v1) := by
    refine Lib.hid ?_
    rcases hlc with e | e
    · exact .inl e
    · exact .inr ⟨_, e, by simp⟩
  have Hov := Lib.hid hov
  clear hov
  clear hgv hlc
  go_wp2_with fail
  refine (HPU.out _).mono ?_
  rintro e W2 ⟨pv, rfl, hpv, h2⟩
  have C2 : Hid (Chg so.v.ownBlock.toList w W2) := Lib.hid (C1.out.then h2)
  have B2 := Lib.hid (Hov.out.pure h2)
  have P2 := Lib.hid (bb_put hpv)
  have hb1 : base ≤ W2.heap.size := Nat.le_trans hbw C2.out.size
  have hlen : (l ++ [UInt8.ofNat op]).length = l.length + 1 := by simp
  clear hpv h2
  go_wp2_with (at_builtin; refine Lay.app (L := byteL) Tryz.infoByte rfl _ _ rfl base v1 (l ++ [UInt8.ofNat op]) rfl B2.out pv rfl (putU n) P2.out (by rw [hlen]; omega) (by rw [hlen]; omega) hb1 ?_; intro v2 W3 hov2 hgv hlc; refine Hid.out ?_)
  refine Lib.hid ?_
  have C3 : Hid (Chg so.v.ownBlock.toList w W3) := by
    refine Lib.hid ?_
    refine C2.out.trans (Lay.chg_grown hgv) (fun i hi hw => ?_)
    rcases L1.out with e | ⟨j, e, hj⟩
    · rw [e] at hi; exact hi
    · rw [e] at hi; simp at hi; omega
  have L3 : Hid (Loc w so.v v2) := by
    refine Lib.hid ?_
    rcases hlc with e | e
    · rcases L1.out with e2 | ⟨j, e2, hj⟩
      · exact .inl (e.trans e2)
      · exact .inr ⟨j, e.trans e2, hj⟩
    · exact .inr ⟨_, e, C2.out.size⟩
  have P3 := Lib.hid (Hp.out.frameS C3.out hpb)
  rw [List.append_assoc] at hov2
  obtain ⟨so2, rfl⟩ := BB_shape hov2
  have B3 := Lib.hid hov2
  clear hov2
  have hp2 : p ∉ so2.v.ownBlock.toList := by
    rcases L3.out with e | ⟨j, e, hj⟩
    · rw [e]; exact hpb
    · rw [e]; simp; omega
  clear hgv hlc x0
  have x3 := svL.c P3.out
  have z3 := P3.out.frozen 0
  unfold SlV.v
  go_wp2
  go_end0
  refine ⟨rfl, so2, svL.set P3.out so2, B3.out.frame (S := [p]) ((Chg.refl _ _).setCell _ _ (.inl (by simp))) (fun k hk hm => by simp at hm; exact hp2 (by rw [hk, hm]; simp)), (C3.out.mono (fun i hi _ => List.mem_cons_of_mem _ hi)).setCell _ _ (.inl (by simp)), L3.out, hp2⟩
end Go.Proofs.YtlblcbgmmfjdjaaGreatDoor
