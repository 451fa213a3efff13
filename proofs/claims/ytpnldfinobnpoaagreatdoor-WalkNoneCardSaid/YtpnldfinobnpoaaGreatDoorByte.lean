/- Rows of bytes; chain.put. -/
import Derived.Test.YtpnldfinobnpoaaGreatDoorOps
import Derived.Test.YtpnldfinobnpoaaGreatDoorProg
import Derived.Deep.CutRange
import Derived.StillTailTactics
import Derived.Handy
namespace Go.Proofs.YtpnldfinobnpoaaGreatDoor
open Go.RowKit
set_option maxRecDepth 100000

def byteL : Lay UInt8 := ⟨1, fun b => [.int .u8 b.toNat], 0, fun _ => rfl, by decide, fun x u hu => by
  simp only [List.mem_singleton] at hu
  subst hu
  rfl⟩
abbrev BB (w : World) (base : Nat) (v : Value) (l : List UInt8) : Prop := byteL.Buf 5 w base v l
theorem Tryz.infoByte : Lay.Info Tryz.prog 36 5 byteL.n 1 := Lay.Info.mk' (z := .int .u8 0) (by kernel_rfl) (by kernel_rfl) rfl
/-- A number's bytes, the lowest first. -/
def leB (n size : Nat) : List UInt8 := (List.range size).map fun i => UInt8.ofNat (n / 2 ^ (8 * i))
theorem leB_succ (n k : Nat) : leB n (k + 1) = leB n k ++ [UInt8.ofNat (n / 2 ^ (8 * k))] := by simp [leB, List.range_succ]
theorem leB_len (n k : Nat) : (leB n k).length = k := by simp [leB]
theorem byte_int (n f : Nat) : (((UInt8.ofNat (n / 2 ^ f)).toNat : Nat) : Int) = (n : Int) / 2 ^ f % 256 := by
  rw [UInt8.toNat_ofNat', Int.natCast_emod, Int.natCast_ediv, Int.natCast_pow]
  rfl
/-- Where a row that grew lies. -/
def Loc (w : World) (v v' : Value) : Prop := v'.ownBlock = v.ownBlock ∨ ∃ k, v'.ownBlock = some k ∧ w.heap.size ≤ k
set_option maxHeartbeats 1000000 in
theorem put_any (l : List UInt8) (v : Value) (base : Nat) (n : Nat) (size : Nat) (hs : size ≤ 8) (w : World) (hb : BB w base v l) (hl : l.length ≤ 1099511627776) (hbw : base ≤ w.heap.size) :
    Calls Tryz.prog 64 #[v, .int .u64 n, .int .i64 size] w fun e w' => ∃ v', e = .returned v' ∧ BB w' base v' (l ++ leB n size) ∧ Chg v.ownBlock.toList w w' ∧ Loc w v v' := by
  have Hb := Lib.hid hb
  clear hb
  go_enter Tryz.func64, Tryz.ntmps64
  go_wp2_with fail
  go_loopw [0, 9] (fun s0 s9 wr => ∃ k : Nat, k ≤ size ∧ s9 = .int .i64 (k : Int) ∧ BB wr base s0 (l ++ leB n k) ∧ Chg v.ownBlock.toList w wr ∧ Loc w v s0) (fun _ s9 _ => size - (intOf s9).toNat)
  case atStart => exact ⟨0, Nat.zero_le _, rfl, by simpa [leB] using Hb.out, Chg.refl _ _, .inl rfl⟩
  case round =>
    obtain ⟨k, hk, rfl, hu, hch, hloc⟩ := hrel
    have Hu := Lib.hid hu
    have Hch := Lib.hid hch
    have Hloc := Lib.hid hloc
    clear hu hch hloc
    by_cases hlt : k < size
    · have Q : Hid ([Value.int .u8 ((n : Int) / 2 ^ (8 * k) % 256)] = byteL.vals [UInt8.ofNat (n / 2 ^ (8 * k))]) := Lib.hid (by rw [Lay.vals_single]; exact congrArg (fun z => [Value.int .u8 z]) (byte_int _ _).symm)
      have hlen : (l ++ leB n k).length = l.length + k := by rw [List.length_append, leB_len]
      go_wp2_with (at_builtin; refine Lay.app (L := byteL) Tryz.infoByte rfl _ _ rfl base u0 (l ++ leB n k) rfl (Hu.out.pure ((Chg.refl _ _).alloc _)) _ rfl [UInt8.ofNat (n / 2 ^ (8 * k))] (Lay.Rd.of_heap (heap_alloc_eq _ _) Q.out rfl (show 1 ≤ maxLen by decide)) (by rw [hlen]; simp; omega) (by rw [hlen]; simp; omega) (Nat.le_trans hbw (Nat.le_trans Hch.out.size (by simp))) ?_; intro v' wb hov hgv hlc; refine Hid.out ?_)
      refine Lib.hid ?_
      rw [List.append_assoc, ← leB_succ] at hov
      have C2 : Hid (Chg v.ownBlock.toList w wb) := by
        refine Lib.hid ?_
        refine (Hch.out.alloc (.cells #[.int .u8 ((n : Int) / 2 ^ (8 * k) % 256)] 5)).trans (Lay.chg_grown hgv) (fun i hi hw => ?_)
        rcases Hloc.out with e | ⟨j, e, hj⟩
        · rw [e] at hi; exact hi
        · rw [e] at hi; simp at hi; omega
      have L2 : Hid (Loc w v v') := by
        refine Lib.hid ?_
        rcases hlc with e | e
        · rcases Hloc.out with e2 | ⟨j, e2, hj⟩
          · exact .inl (e.trans e2)
          · exact .inr ⟨j, e.trans e2, hj⟩
        · exact .inr ⟨_, e, Nat.le_trans Hch.out.size (by simp)⟩
      have Hov := Lib.hid hov
      clear hov
      clear hgv hlc hlen
      go_wp2
      go_roundw
      case rel => exact ⟨k + 1, hlt, by go_num, Hov.out, C2.out, L2.out⟩
      case measure => simp [intOf]; omega
    · obtain rfl : k = size := by omega
      go_wp2
      go_ret
      exact ⟨_, rfl, Hu.out, Hch.out, Hloc.out⟩
end Go.Proofs.YtpnldfinobnpoaaGreatDoor
