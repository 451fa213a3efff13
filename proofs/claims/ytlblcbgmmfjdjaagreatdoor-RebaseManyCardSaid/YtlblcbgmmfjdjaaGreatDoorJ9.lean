/- Lemmas, laid together: part 9 of 35. Conditions: none but each lemma's own. -/
import Derived.Test.YtlblcbgmmfjdjaaGreatDoorJ8
import Derived.Test.YtlblcbgmmfjdjaaGreatDoorJ3
import Derived.Shelf.Strings.Builder1
import Derived.Shelf.Strings.Builder2
import Derived.Shelf.Strings.OnBuilder
import Derived.Shelf.Strconv.Itoa1
import Derived.Shelf.LaysM
import Derived.Shelf.Strconv.Itoa2
import Derived.Shelf.Strconv.Itoa3
import Derived.Shelf.Strconv.Itoa4
import Derived.Shelf.Strings.Search1
import Derived.Shelf.Strings.Search2
import Derived.Shelf.Strings.Search3
import Derived.Test.YtlblcbgmmfjdjaaGreatDoorProg
import Derived.WalkKit
/- image.Word. -/
namespace Go.Proofs.YtlblcbgmmfjdjaaGreatDoor
open Go.RowKit
set_option maxRecDepth 100000

def pad8 (l : List UInt8) (o : Nat) : List UInt8 := (List.range 8).map fun j => l.getD (o + j) 0
theorem pad8_len (l : List UInt8) (o : Nat) : (pad8 l o).length = 8 := by simp [pad8]
theorem pad8_get (l : List UInt8) (o k : Nat) (h : k < 8) : (pad8 l o)[k]?.getD 0 = l.getD (o + k) 0 := by simp [pad8, h]
theorem pad8_out (l : List UInt8) (o k : Nat) (h : k < 8) (hl : l.length ≤ o + k) : leNum ((pad8 l o).take (k + 1)) = leNum ((pad8 l o).take k) := by
  rw [take_snoc8 _ _ (by rw [pad8_len]; exact h), leNum_snoc, pad8_get l o k h, List.getD_eq_getElem?_getD, List.getElem?_eq_none hl]
  simp
def padI (l : List UInt8) (o : Nat) : Int := ((leNum (pad8 l o) : Nat) : Int)
/-- What the file has at an address, or why it has nothing. -/
def wordS (ls : List Seg) (l : List UInt8) (addr : Int) : Int × Int := match atS ls addr with
  | none => (0, 4)
  | some k => if (ls.getD k .zero).size - (addr - (ls.getD k .zero).addr) < 8 then (0, 4) else (padI (partS l (ls.getD k .zero).off.toNat (ls.getD k .zero).fsize.toNat) (addr - (ls.getD k .zero).addr).toNat, 0)
set_option maxHeartbeats 2000000 in
theorem Word_any (l : List UInt8) (v : Value) (m : Img) (ls : List Seg) (hls : SegsB ls) (addr : Int) (ha : addr < 18446744073709551616) (w : World) (rl : byteL.Rd w v l) (hlen : l.length ≤ 100000000) (rd : segL.Rd w m.segs.v ls) :
    Calls Tryz.prog 51 #[v, imgL.val m, .int .u64 addr] w fun e w' => e = .returned (.tuple #[.int .u64 (wordS ls l addr).1, .int .i64 (wordS ls l addr).2]) ∧ Chg [] w w' := by
  have HAT := Lib.hid (At_img m ls hls addr ha)
  obtain ⟨av, capv, rfl, _, hcv⟩ := rl.shape
  obtain ⟨a, cap, hv, hc1, hc2⟩ := rd.shape
  have rd' := rd
  rw [hv] at rd'
  have RD := Lib.hid (rd)
  have RD2 := Lib.hid rd'
  have Hc2 := Lib.hid hc2
  have Hcv := Lib.hid hcv
  have Rl := Lib.hid rl
  clear rd' hc2 hcv rl
  clear hc1
  cases hat : atS ls addr with
  | none =>
    rw [show wordS ls l addr = (0, 4) by unfold wordS; rw [hat]]
    rw [hat] at HAT
    unfold idxI at HAT
    clear hat hls ha rd hv
    go_enter Tryz.func51, Tryz.ntmps51
    go_wp2_with ((with_reducible refine Lay.bxL (L := imgL) 33 m ?_ ?_); exact rfl; intro W1 bm ebm cbm xbm; replace ebm := Lib.hid ebm; replace cbm := Lib.hid cbm; replace xbm := Lib.hid xbm; refine Hid.out ?_)
    refine Lib.hid ?_
    go_wp2_with ((with_reducible refine Lay.ldL Tryz.tImg m (xbm.out.in) ?_ ?_); exact rfl; refine Hid.out ?_)
    refine Lib.hid ?_
    go_wp2_with fail
    refine (HAT.out _ (RD.out.frame cbm.out)).mono ?_
    rintro e W2 ⟨rfl, hc⟩
    have C2 := Lib.hid (cbm.out.then hc)
    have X2 := Lib.hid (xbm.out.frame hc)
    clear hc
    go_wp2
    go_ret2
    exact ⟨rfl, C2.out⟩
  | some k =>
    have hk := idx_lt hat
    have hin := idx_true Seg.zero hat
    have hb := hls k hk
    rw [hat] at HAT
    unfold idxI at HAT
    have hwr : wordS ls l addr = if (ls.getD k .zero).size - (addr - (ls.getD k .zero).addr) < 8 then (0, 4) else (padI (partS l (ls.getD k .zero).off.toNat (ls.getD k .zero).fsize.toNat) (addr - (ls.getD k .zero).addr).toNat, 0) := by unfold wordS; rw [hat]
    obtain ⟨b, off, rfl, _, hcell⟩ := RD2.out.at (by omega)
    have hI : segL.In w b (off + k * 7) (ls.getD k .zero) := hcell k hk
    generalize ls.getD k .zero = s at *
    unfold SlV.v at hv
    have dk : ¬ (k : Int) < 0 := by omega
    have hi1 : s.addr ≤ addr ∧ addr - s.addr < s.size := by
      unfold inS at hin
      simp only [Bool.and_eq_true, decide_eq_true_eq] at hin
      exact hin.2
    unfold SegB at hb
    obtain ⟨O, hO⟩ : ∃ O : Nat, addr - s.addr = O := ⟨(addr - s.addr).toNat, by omega⟩
    have hw1 : IntKind.u64.wrap (addr - s.addr) = (O : Int) := by rw [IntKind.wrap_u64]; omega
    have hw2 : IntKind.u64.wrap (s.size - (O : Int)) = s.size - (O : Int) := by rw [IntKind.wrap_u64]; omega
    obtain ⟨SO, hSO⟩ : ∃ O : Nat, s.off = O := ⟨s.off.toNat, by omega⟩
    obtain ⟨SF, hSF⟩ : ∃ O : Nat, s.fsize = O := ⟨s.fsize.toNat, by omega⟩
    have HPT := Lib.hid (fun w rd => Part_any l (.slice av l.length capv) SO SF (by omega) (by omega) w rd hlen)
    have hO8 : s.size < 18446744073709551616 := by omega
    clear hcell hin hat hls ha hi1 rd
    have HI := Lib.hid hI
    clear hI
    rw [hwr, hO, hSO, hSF, Int.toNat_natCast, Int.toNat_natCast, Int.toNat_natCast]
    clear hwr
    have HO := Lib.hid hO
    have HSO := Lib.hid hSO
    have HSF := Lib.hid hSF
    clear hO hSO hSF
    by_cases h8 : s.size - (O : Int) < 8
    · have d8 : decide (s.size - (O : Int) < 8) = true := by simpa using h8
      rw [if_pos h8]
      clear hb h8 hO8
      go_enter Tryz.func51, Tryz.ntmps51
      go_wp2_with ((with_reducible refine Lay.bxL (L := imgL) 33 m ?_ ?_); exact rfl; intro W1 bm ebm cbm xbm; replace ebm := Lib.hid ebm; replace cbm := Lib.hid cbm; replace xbm := Lib.hid xbm; refine Hid.out ?_)
      refine Lib.hid ?_
      go_wp2_with ((with_reducible refine Lay.ldL Tryz.tImg m (xbm.out.in) ?_ ?_); exact rfl; refine Hid.out ?_)
      refine Lib.hid ?_
      go_wp2_with fail
      refine (HAT.out _ (RD.out.frame cbm.out)).mono ?_
      rintro e W2 ⟨rfl, hc⟩
      have C2 := Lib.hid (cbm.out.then hc)
      have X2 := Lib.hid (xbm.out.frame hc)
      clear hc
      have x4 := Img.c_segs X2.out
      rw [hv] at x4
      go_wp2_with ((with_reducible refine Lay.ldL Tryz.tSeg s ((HI.out.frame C2.out)) ?_ ?_); exact rfl; refine Hid.out ?_)
      refine Lib.hid ?_
      go_wp2_with ((with_reducible refine Lay.alL Tryz.tSeg ?_); intro W3 bs ebs cbs xbs; replace ebs := Lib.hid ebs; replace cbs := Lib.hid cbs; replace xbs := Lib.hid xbs; refine Hid.out ?_)
      refine Lib.hid ?_
      go_wp2_with ((with_reducible refine Lay.stL Tryz.tSeg s (xbs.out) ?_ ?_ ?_); exact rfl; exact rfl; intro W4 cW4 xW4; replace cW4 := Lib.hid cW4; replace xW4 := Lib.hid xW4; refine Hid.out ?_)
      refine Lib.hid ?_
      have C4 : Hid (Chg [] w W4) := Lib.hid (C2.out.then (cbs.out.new cW4.out (by rw [ebs.out]; exact Nat.le_refl _)))
      have x1 := Seg.c_addr xW4.out
      have x2 := Seg.c_size xW4.out
      have x3 := Seg.c_off xW4.out
      have x5 := Seg.c_fsize xW4.out
      clear x4
      go_wp2
      go_ret2
      exact ⟨rfl, C4.out⟩
    · have d8 : decide (s.size - (O : Int) < 8) = false := by simpa using h8
      rw [if_neg h8]
      obtain ⟨R, hR⟩ : ∃ R, R = padI (partS l SO SF) O := ⟨_, rfl⟩
      rw [← hR]
      have HR := Lib.hid hR
      clear hR
      have hOk : O + 8 < 18446744073709551616 := by omega
      clear hb h8 hO8
      have HOk := Lib.hid hOk
      clear hOk
      go_enter Tryz.func51, Tryz.ntmps51
      go_wp2_with ((with_reducible refine Lay.bxL (L := imgL) 33 m ?_ ?_); exact rfl; intro W1 bm ebm cbm xbm; replace ebm := Lib.hid ebm; replace cbm := Lib.hid cbm; replace xbm := Lib.hid xbm; refine Hid.out ?_)
      refine Lib.hid ?_
      go_wp2_with ((with_reducible refine Lay.ldL Tryz.tImg m (xbm.out.in) ?_ ?_); exact rfl; refine Hid.out ?_)
      refine Lib.hid ?_
      go_wp2_with fail
      refine (HAT.out _ (RD.out.frame cbm.out)).mono ?_
      rintro e W2 ⟨rfl, hc⟩
      have C2 := Lib.hid (cbm.out.then hc)
      have X2 := Lib.hid (xbm.out.frame hc)
      clear hc
      have x4 := Img.c_segs X2.out
      rw [hv] at x4
      go_wp2_with ((with_reducible refine Lay.ldL Tryz.tSeg s ((HI.out.frame C2.out)) ?_ ?_); exact rfl; refine Hid.out ?_)
      refine Lib.hid ?_
      go_wp2_with ((with_reducible refine Lay.alL Tryz.tSeg ?_); intro W3 bs ebs cbs xbs; replace ebs := Lib.hid ebs; replace cbs := Lib.hid cbs; replace xbs := Lib.hid xbs; refine Hid.out ?_)
      refine Lib.hid ?_
      go_wp2_with ((with_reducible refine Lay.stL Tryz.tSeg s (xbs.out) ?_ ?_ ?_); exact rfl; exact rfl; intro W4 cW4 xW4; replace cW4 := Lib.hid cW4; replace xW4 := Lib.hid xW4; refine Hid.out ?_)
      refine Lib.hid ?_
      have C4 : Hid (Chg [] w W4) := Lib.hid (C2.out.then (cbs.out.new cW4.out (by rw [ebs.out]; exact Nat.le_refl _)))
      have x1 := Seg.c_addr xW4.out
      have x2 := Seg.c_size xW4.out
      have x3 := Seg.c_off xW4.out
      have x5 := Seg.c_fsize xW4.out
      clear x4
      rw [HSO.out] at x3
      rw [HSF.out] at x5
      go_wp2_with fail
      refine (HPT.out _ (Rl.out.frame C4.out)).mono ?_
      rintro e W5 ⟨⟨v5, rfl, hp⟩, hc⟩
      obtain ⟨a5, c5, rfl, _, hc5⟩ := hp.shape
      obtain ⟨p, hpp⟩ : ∃ p, p = partS l SO SF := ⟨_, rfl⟩
      rw [← hpp] at hp ⊢
      have P5 := Lib.hid (hp)
      have C5 := Lib.hid (C4.out.then hc)
      have hwp : IntKind.u64.wrap (p.length : Int) = (p.length : Int) := by rw [IntKind.wrap_u64]; have := P5.out.shape; unfold maxLen at this; omega
      have Hc5 := Lib.hid hc5
      have Hpp := Lib.hid hpp
      clear hc5 hpp
      clear hc hp x1 x2 x3 x5 xW4 cW4
      go_wp2_with fail
      go_loop [12, 40] (fun acc i => ∃ (j : Nat), j ≤ 8 ∧ i = .int .u64 j ∧ acc = .int .u64 (leNum ((pad8 p O).take j))) (fun _ i => 8 - (intOf i).toNat)
      case atStart => exact ⟨0, by omega, rfl, rfl⟩
      case round =>
        obtain ⟨j, hj, rfl, rfl⟩ := hrel
        by_cases hlt : j < 8
        · have hwk : IntKind.u64.wrap ((O : Int) + (j : Int)) = ((O + j : Nat) : Int) := by rw [IntKind.wrap_u64]; have := HOk.out; omega
          have h8j : IntKind.u64.wrap (8 * (j : Int)) = ((8 * j : Nat) : Int) := by rw [IntKind.wrap_u64]; omega
          have hj1 : IntKind.u64.wrap ((j : Int) + 1) = ((j + 1 : Nat) : Int) := by rw [IntKind.wrap_u64]; omega
          by_cases hin : O + j < p.length
          · obtain ⟨b6, o6, rfl, _, hcell⟩ := P5.out.at (by omega)
            have hx := hcell (O + j) hin 0 (by decide)
            rw [show byteL.n = 1 from rfl, Nat.mul_one, Nat.add_zero] at hx
            have hx2 : W5.cell? ⟨b6, o6 + (O + j), none⟩ = some (.int .u8 (((pad8 p O)[j]?.getD 0).toNat : Nat)) := by rw [pad8_get p O j hlt]; exact hx
            have HS := Lib.hid (le_step (pad8 p O) j (by rw [pad8_len]; exact hlt) (by rw [pad8_len]; omega))
            clear hcell hx
            go_wp2
            go_round
            case rel => exact ⟨j + 1, by omega, by go_num, by rw [HS.out]⟩
            case measure => simp [intOf]; omega
          · have HS := Lib.hid (pad8_out p O j hlt (by omega))
            go_wp2
            go_round
            case rel => exact ⟨j + 1, by omega, by go_num, by rw [HS.out]⟩
            case measure => simp [intOf]; omega
        · obtain rfl : j = 8 := by omega
          have E2 : (pad8 p O).take 8 = pad8 p O := List.take_of_length_le (by rw [pad8_len]; omega)
          have E3 : ((leNum ((pad8 p O).take 8) : Nat) : Int) = R := by rw [E2, HR.out, ← Hpp.out]; unfold padI; rfl
          rw [E3]
          clear E2 E3
          go_wp2
          go_ret2
          exact ⟨rfl, C5.out⟩
end Go.Proofs.YtlblcbgmmfjdjaaGreatDoor
/- append of records to a row of the call's own: the run, and the step of a drawn region. -/
namespace Go.Proofs.YtlblcbgmmfjdjaaGreatDoor
open Go.RowKit
set_option maxRecDepth 100000

namespace Lay
variable {α : Type} {L : Lay α} {E : TypeId}
theorem run_app1 {P : Program} {T : TypeId} {bytes : Nat} (hI : Info P T E L.n bytes) (w : World) (ty : TypeId) (base : Nat) (v : Value) (ls : List α) (hown : L.Buf E w base v ls) (ad : Addr) (n c : Nat) (ms : List α) (hrd : L.Rd w (.slice (some ad) n c) ms)
    (hle : (ls.length + ms.length) * bytes ≤ 140737488355328) (hle2 : ls.length + ms.length ≤ 9223372036854775807) (hbase : base ≤ w.heap.size) :
    ∃ v' w', (Builtin.append_ #[T, T] ty #[v, .slice (some ad) n c]).run P w = .ok v' w' ∧ L.Buf E w' base v' (ls ++ ms) ∧ w.grownBy w' v.ownBlock ∧ (v'.ownBlock = v.ownBlock ∨ v'.ownBlock = some w.heap.size) := by
  obtain ⟨i0, z, hi, hz0, hz1, hz2, hz3⟩ := hI.i
  obtain ⟨hl, hc⟩ := Rd.cells hrd
  subst hl
  obtain ⟨v', w', hr, h2, h3, h4, h5⟩ := run_append_own_at (P := P) w base T ty E i0 z L.n bytes hI.u hi hz0 hz1 hz2 hz3 L.pos v ls.length (L.vals ls) hown ad ms.length c (L.vals ms) (vals_len ms) hc (vals_one _) (by unfold maxLen; exact hle2) hle hbase
  refine ⟨v', w', hr, ?_, h3, h5⟩
  unfold Buf
  rw [vals_append, List.length_append]
  exact h2
theorem armApp {P : Program} {T : TypeId} {bytes : Nat} (hI : Info P T E L.n bytes) {o : Oper} {a : Act} {w : World} {K : Act → World → Prop} {Q : Exit → Act → World → Prop} {tm : Nat → Option Bool} (hgd : o.guard = none) (s x : Operand) (ho : o.op = .call { callee := .builtin .append, args := #[s, x], argTypes := #[T, T] })
    (base : Nat) (v : Value) (ls : List α) (hs : a.eval s = v) (hown : L.Buf E w base v ls) (ad : Addr) (n c : Nat) (hx : a.eval x = .slice (some ad) n c) (ms : List α) (hrd : L.Rd w (.slice (some ad) n c) ms)
    (hle : (ls.length + ms.length) * bytes ≤ 140737488355328) (hle2 : ls.length + ms.length ≤ 9223372036854775807) (hbase : base ≤ w.heap.size)
    (h : ∀ v' w', L.Buf E w' base v' (ls ++ ms) → w.grownBy w' v.ownBlock → (v'.ownBlock = v.ownBlock ∨ v'.ownBlock = some w.heap.size) → K (a.put o.dst v') w') : if Region.wanted o tm = true then Oper.wp P o a w K Q else K (a.put o.dst undef) w := by
  rw [if_pos (by simp [Region.wanted, hgd])]
  obtain ⟨v', w', hr, h1, h2, h3⟩ := run_app1 hI w o.type base v ls hown ad n c ms hrd hle hle2 hbase
  unfold Oper.wp execOp
  simp only [ho, resolve, invoke, builtin, Sem.run_bind, Sem.run_pure, Result.andThen_ok, List.map_toArray, List.map_cons, List.map_nil, hs, hx, hr]
  exact h _ _ h1 h2 h3
theorem armBs1 {P : Program} {T : TypeId} {o : Oper} {a : Act} {w : World} {K : Act → World → Prop} {Q : Exit → Act → World → Prop} {tm : Nat → Option Bool} (hgd : o.guard = none) (s : Operand) (ho : o.op = .buildSlice T 1 #[(0, s)]) (x : α)
    (hr : ∀ w, (Instr.buildSlice T 1 #[(0, L.val x)]).run P w = .ok (.slice (some ⟨w.heap.size, 0, none⟩) 1 1) (w.alloc (.cells (L.f x).toArray E))) (hs : a.eval s = L.val x)
    (h : ∀ W g, Chg [] w W → L.Rd W (.slice (some ⟨g, 0, none⟩) 1 1) [x] → K (a.put o.dst (.slice (some ⟨g, 0, none⟩) 1 1)) W) : if Region.wanted o tm = true then Oper.wp P o a w K Q else K (a.put o.dst undef) w := by
  rw [if_pos (by simp [Region.wanted, hgd])]
  have hrw := hr w
  unfold Oper.wp execOp
  simp only [ho, List.map_toArray, List.map_cons, List.map_nil, hs, Sem.run_bind, hrw, Result.andThen_ok, Sem.run_pure]
  exact h _ _ ((Chg.refl _ _).alloc _) (Lay.Rd.of_heap (heap_alloc_eq _ _) (Lay.vals_single x).symm rfl (show 1 ≤ maxLen by decide))
end Lay
end Go.Proofs.YtlblcbgmmfjdjaaGreatDoor
/- Contracts of the library, proved once in the kit, laid at this seat's program (made by the kit's tools lay-shelf and lay-plain). -/
namespace Go.Proofs
open Go.Shelf
def Tryz.lays144_ren : Go.Shelf.Ren := ⟨fun | 144 => 32 | 143 => 47 | 219 => 67 | 217 => 88 | 225 => 89 | 224 => 90 | 267 => 91 | 266 => 102 | 314 => 103 | n => n, fun | 9 => 9 | 4 => 4 | 3 => 3 | 5 => 5 | 46 => 54 | 146 => 160 | 51 => 28 | n => n, fun | 1 => 1 | n => n⟩
theorem Tryz.lays144 : Go.Proofs.Lays.n144 Tryz.prog Tryz.lays144_ren := {
  mixed := by kernel_rfl
  f143 := Tryz.func47.trans (congrArg some (by kernel_rfl))
  f144 := Tryz.func32.trans (congrArg some (by kernel_rfl))
  f217 := Tryz.func88.trans (congrArg some (by kernel_rfl))
  f219 := Tryz.func67.trans (congrArg some (by kernel_rfl))
  f224 := Tryz.func90.trans (congrArg some (by kernel_rfl))
  f225 := Tryz.func89.trans (congrArg some (by kernel_rfl))
  f266 := Tryz.func102.trans (congrArg some (by kernel_rfl))
  f267 := Tryz.func91.trans (congrArg some (by kernel_rfl))
  f314 := Tryz.func103.trans (congrArg some (by kernel_rfl))
  t3 := Tryz.underlying3
  a3 := Tryz.isAgg3
  z3 := Tryz.sizeOf3
  v3 := Tryz.zeroValue3
  t4 := Tryz.underlying4
  a4 := Tryz.isAgg4
  z4 := Tryz.sizeOf4
  v4 := Tryz.zeroValue4
  t5 := Tryz.underlying5
  a5 := Tryz.isAgg5
  z5 := Tryz.sizeOf5
  v5 := Tryz.zeroValue5
  t9 := Tryz.underlying9
  a9 := Tryz.isAgg9
  z9 := Tryz.sizeOf9
  v9 := Tryz.zeroValue9
  t46 := Tryz.underlying54
  a46 := Tryz.isAgg54
  z46 := Tryz.sizeOf54
  v46 := Tryz.zeroValue54
  t51 := Tryz.underlying28
  a51 := Tryz.isAgg28
  z51 := Tryz.sizeOf28
  v51 := Tryz.zeroValue28
  t146 := Tryz.underlying160
  a146 := Tryz.isAgg160
  z146 := Tryz.sizeOf160
  v146 := Tryz.zeroValue160
  g1 := by kernel_rfl }
open Go.RowKit Go.Lib in
theorem Tryz.strings_Contains_one (s : ByteArray) (c : UInt8) (w : World) :
    Calls Tryz.prog 32 #[.string s, .string ⟨#[c]⟩] w fun e w' => e = .returned (.bool (decide (0 ≤ Lib.indexByte s.data.toList c))) ∧ w' = w := Any.strings_Contains_one Tryz.lays144 s c w
end Go.Proofs
/- Plain: an integer argument as a natural number, its bounds. -/
namespace Go.Proofs.YtlblcbgmmfjdjaaGreatDoor
open Go.RowKit

theorem nat_u64 (a : Int) (h : (Lit.int .u64 a).wf = true) : ∃ n : Nat, a = n ∧ n < 18446744073709551616 := by
  refine ⟨a.toNat, ?_, ?_⟩ <;> (simp [Lit.wf, IntKind.min, IntKind.max, IntKind.signed, IntKind.bits] at h; omega)
theorem nat_u32 (a : Int) (h : (Lit.int .u32 a).wf = true) : ∃ n : Nat, a = n ∧ n < 4294967296 := by
  refine ⟨a.toNat, ?_, ?_⟩ <;> (simp [Lit.wf, IntKind.min, IntKind.max, IntKind.signed, IntKind.bits] at h; omega)
theorem nat_u8 (a : Int) (h : (Lit.int .u8 a).wf = true) : ∃ n : Nat, a = n ∧ n < 256 := by
  refine ⟨a.toNat, ?_, ?_⟩ <;> (simp [Lit.wf, IntKind.min, IntKind.max, IntKind.signed, IntKind.bits] at h; omega)
theorem int_i64 (a : Int) (h : (Lit.int .i64 a).wf = true) : -9223372036854775808 ≤ a ∧ a < 9223372036854775808 := by
  constructor <;> (simp [Lit.wf, IntKind.min, IntKind.max, IntKind.signed, IntKind.bits] at h; omega)
end Go.Proofs.YtlblcbgmmfjdjaaGreatDoor
