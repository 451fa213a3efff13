/- Lemmas, laid together: part 37 of 46. Conditions: none but each lemma's own. -/
import Derived.Test.YtaipelkegemoeaaGreatDoorJ36
/- rebase.Make's closure: an opcode and a number. -/
namespace Go.Proofs.YtaipelkegemoeaaGreatDoor
open Go.RowKit
set_option maxRecDepth 100000

/-- A slice's own cell. -/
def svL : Lay SlV := ⟨1, fun s => [.slice s.a s.n s.cap], ⟨none, 0, 0⟩, fun _ => rfl, by decide, fun x u hu => by
  simp only [List.mem_singleton] at hu
  subst hu
  rfl⟩
theorem svL.c {w : World} {b : Nat} {s : SlV} (h : svL.Box w b s) : w.cell? ⟨b, 0, none⟩ = some (.slice s.a s.n s.cap) := h.in 0 (by decide)
theorem svL.set {w : World} {b : Nat} {s : SlV} (h : svL.Box w b s) (x : SlV) : svL.Box (w.setCell ⟨b, 0, none⟩ (.slice x.a x.n x.cap)) b x := Lay.Box.set h 0 _ _ rfl
theorem BB_shape {w : World} {base : Nat} {v : Value} {l : List UInt8} (h : BB w base v l) : ∃ so : SlV, v = so.v := by
  obtain ⟨a, c, he, _⟩ := h.rd.shape
  exact ⟨⟨a, l.length, c⟩, he⟩
theorem bytesV_vals (l : List UInt8) : bytesV l = byteL.vals l := by
  induction l with
  | nil => rfl
  | cons x r ih =>
    rw [show byteL.vals (x :: r) = [Value.int .u8 x.toNat] ++ byteL.vals r from rfl, ← ih]
    rfl
theorem bb_put {w : World} {base : Nat} {v : Value} {n : Nat} (h : w.ownsRow base 5 1 v (putU n).length (bytesV (putU n))) : byteL.Rd w v (putU n) := by
  rw [bytesV_vals] at h
  exact Lay.Buf.rd (E := 5) h
set_option maxHeartbeats 4000000 in
theorem mput_any (op n : Nat) (hop : op < 256) (hn : n < 18446744073709551616) (p base : Nat) (so : SlV) (l : List UInt8) (hl : l.length ≤ 1000000) (w : World) (hp : svL.Box w p so) (hb : BB w base so.v l) (hpb : p ∉ so.v.ownBlock.toList) (hbw : base ≤ w.heap.size) :
    Calls Tryz.prog 18 #[.int .u8 op, .int .u64 n, .pointer (some ⟨p, 0, none⟩)] w fun e w' => e = .returned (.tuple #[]) ∧ ∃ so' : SlV, svL.Box w' p so' ∧ BB w' base so'.v (l ++ UInt8.ofNat op :: putU n) ∧ Chg (p :: so.v.ownBlock.toList) w w' ∧ Loc w so.v so'.v ∧ p ∉ so'.v.ownBlock.toList := by
  have HPU := Lib.hid (fun w => Put_any n w hn)
  have Q : Hid ([Value.int .u8 op] = byteL.vals [UInt8.ofNat op]) := by
    refine Lib.hid ?_
    rw [Lay.vals_single]
    show [Value.int .u8 op] = [Value.int .u8 ((UInt8.ofNat op).toNat : Nat)]
    rw [UInt8.toNat_ofNat', Nat.mod_eq_of_lt hop]
  have hpl : (putU n).length ≤ 10 := (putUf_length 9 n).1
  have x0 := svL.c hp
  have hpl2 := hp.lt
  have Hp := Lib.hid hp
  have Hb := Lib.hid hb
  clear hp hb
  go_enter Tryz.func18, Tryz.ntmps18
  go_wp2_with (at_builtin; refine Lay.app (L := byteL) Tryz.infoByte rfl _ _ rfl base so.v l rfl (Hb.out.pure ((Chg.refl _ _).alloc _)) _ rfl [UInt8.ofNat op] (Lay.Rd.of_heap (heap_alloc_eq _ _) Q.out rfl (show 1 ≤ maxLen by decide)) (by simp; omega) (by simp; omega) (Nat.le_trans hbw (by simp)) ?_; intro v1 W1 hov hgv hlc; refine Hid.out ?_)
  refine Lib.hid ?_
  have C1 : Hid (Chg so.v.ownBlock.toList w W1) := Lib.hid (((Chg.refl _ _).alloc _).trans (Lay.chg_grown hgv) (fun i hi _ => hi))
  have L1 : Hid (Loc w so.v v1) := by
    refine Lib.hid ?_
    rcases hlc with e | e
    · exact .inl e
    · exact .inr ⟨_, e, by simp⟩
  have Hov := Lib.hid hov
  clear hov
  clear hgv hlc
  go_wp2_with fail
  refine (HPU.out _).mono ?_
  rintro e W2 ⟨pv, rfl, hpv, h2⟩
  have C2 : Hid (Chg so.v.ownBlock.toList w W2) := Lib.hid (C1.out.then h2)
  have B2 := Lib.hid (Hov.out.pure h2)
  have P2 := Lib.hid (bb_put hpv)
  have hb1 : base ≤ W2.heap.size := Nat.le_trans hbw C2.out.size
  have hlen : (l ++ [UInt8.ofNat op]).length = l.length + 1 := by simp
  clear hpv h2
  go_wp2_with (at_builtin; refine Lay.app (L := byteL) Tryz.infoByte rfl _ _ rfl base v1 (l ++ [UInt8.ofNat op]) rfl B2.out pv rfl (putU n) P2.out (by rw [hlen]; omega) (by rw [hlen]; omega) hb1 ?_; intro v2 W3 hov2 hgv hlc; refine Hid.out ?_)
  refine Lib.hid ?_
  have C3 : Hid (Chg so.v.ownBlock.toList w W3) := by
    refine Lib.hid ?_
    refine C2.out.trans (Lay.chg_grown hgv) (fun i hi hw => ?_)
    rcases L1.out with e | ⟨j, e, hj⟩
    · rw [e] at hi; exact hi
    · rw [e] at hi; simp at hi; omega
  have L3 : Hid (Loc w so.v v2) := by
    refine Lib.hid ?_
    rcases hlc with e | e
    · rcases L1.out with e2 | ⟨j, e2, hj⟩
      · exact .inl (e.trans e2)
      · exact .inr ⟨j, e.trans e2, hj⟩
    · exact .inr ⟨_, e, C2.out.size⟩
  have P3 := Lib.hid (Hp.out.frameS C3.out hpb)
  rw [List.append_assoc] at hov2
  obtain ⟨so2, rfl⟩ := BB_shape hov2
  have B3 := Lib.hid hov2
  clear hov2
  have hp2 : p ∉ so2.v.ownBlock.toList := by
    rcases L3.out with e | ⟨j, e, hj⟩
    · rw [e]; exact hpb
    · rw [e]; simp; omega
  clear hgv hlc x0
  have x3 := svL.c P3.out
  have z3 := P3.out.frozen 0
  unfold SlV.v
  go_wp2
  go_end0
  refine ⟨rfl, so2, svL.set P3.out so2, B3.out.frame (S := [p]) ((Chg.refl _ _).setCell _ _ (.inl (by simp))) (fun k hk hm => by simp at hm; exact hp2 (by rw [hk, hm]; simp)), (C3.out.mono (fun i hi _ => List.mem_cons_of_mem _ hi)).setCell _ _ (.inl (by simp)), L3.out, hp2⟩
end Go.Proofs.YtaipelkegemoeaaGreatDoor
