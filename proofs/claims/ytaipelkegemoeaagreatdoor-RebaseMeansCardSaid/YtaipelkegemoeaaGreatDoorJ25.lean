/- Lemmas, laid together: part 25 of 46. Conditions: none but each lemma's own. -/
import Derived.Test.YtaipelkegemoeaaGreatDoorJ24
import Derived.Test.YtaipelkegemoeaaGreatDoorJ5
import Derived.Shelf.Strings.Builder1
import Derived.Shelf.Strings.Builder2
import Derived.Shelf.Strings.OnBuilder
import Derived.Shelf.Strconv.Itoa1
import Derived.Shelf.LaysM
import Derived.Shelf.Strconv.Itoa2
import Derived.Shelf.Strconv.Itoa3
import Derived.Shelf.Strconv.Itoa4
import Derived.Shelf.Strings.Search1
import Derived.Shelf.Strings.Search2
import Derived.Shelf.Strings.Search3
import Derived.Test.YtaipelkegemoeaaGreatDoorProg
import Derived.WalkKit
import Derived.Test.YtaipelkegemoeaaGreatDoorJ1
import Derived.Test.YtaipelkegemoeaaGreatDoorJ3
import Derived.LaidEql
import Derived.Stop.Asserts
import Derived.RowKitTokens
import Derived.Maps.AppendAt
import Derived.Handy
import Derived.Laws.BitsLemmas
import Derived.StillTailTactics
import Derived.Laws.Externs
import Derived.Lib.ConvBytes
import Derived.Deep.CutRange
import Derived.Test.YtaipelkegemoeaaGreatDoorJ6
/- image.Word. -/
namespace Go.Proofs.YtaipelkegemoeaaGreatDoor
open Go.RowKit
set_option maxRecDepth 100000

def pad8 (l : List UInt8) (o : Nat) : List UInt8 := (List.range 8).map fun j => l.getD (o + j) 0
theorem pad8_len (l : List UInt8) (o : Nat) : (pad8 l o).length = 8 := by simp [pad8]
theorem pad8_get (l : List UInt8) (o k : Nat) (h : k < 8) : (pad8 l o)[k]?.getD 0 = l.getD (o + k) 0 := by simp [pad8, h]
theorem pad8_out (l : List UInt8) (o k : Nat) (h : k < 8) (hl : l.length ≤ o + k) : leNum ((pad8 l o).take (k + 1)) = leNum ((pad8 l o).take k) := by
  rw [take_snoc8 _ _ (by rw [pad8_len]; exact h), leNum_snoc, pad8_get l o k h, List.getD_eq_getElem?_getD, List.getElem?_eq_none hl]
  simp
def padI (l : List UInt8) (o : Nat) : Int := ((leNum (pad8 l o) : Nat) : Int)
/-- What the file has at an address, or why it has nothing. -/
def wordS (ls : List Seg) (l : List UInt8) (addr : Int) : Int × Int := match atS ls addr with
  | none => (0, 4)
  | some k => if (ls.getD k .zero).size - (addr - (ls.getD k .zero).addr) < 8 then (0, 4) else (padI (partS l (ls.getD k .zero).off.toNat (ls.getD k .zero).fsize.toNat) (addr - (ls.getD k .zero).addr).toNat, 0)
set_option maxHeartbeats 2000000 in
theorem Word_any (l : List UInt8) (v : Value) (m : Img) (ls : List Seg) (hls : SegsB ls) (addr : Int) (ha : addr < 18446744073709551616) (w : World) (rl : byteL.Rd w v l) (hlen : l.length ≤ 100000000) (rd : segL.Rd w m.segs.v ls) :
    Calls Tryz.prog 98 #[v, imgL.val m, .int .u64 addr] w fun e w' => e = .returned (.tuple #[.int .u64 (wordS ls l addr).1, .int .i64 (wordS ls l addr).2]) ∧ Chg [] w w' := by
  have HAT := Lib.hid (At_img m ls hls addr ha)
  obtain ⟨av, capv, rfl, _, hcv⟩ := rl.shape
  obtain ⟨a, cap, hv, hc1, hc2⟩ := rd.shape
  have rd' := rd
  rw [hv] at rd'
  have RD := Lib.hid (rd)
  have RD2 := Lib.hid rd'
  have Hc2 := Lib.hid hc2
  have Hcv := Lib.hid hcv
  have Rl := Lib.hid rl
  clear rd' hc2 hcv rl
  clear hc1
  cases hat : atS ls addr with
  | none =>
    rw [show wordS ls l addr = (0, 4) by unfold wordS; rw [hat]]
    rw [hat] at HAT
    unfold idxI at HAT
    clear hat hls ha rd hv
    go_enter Tryz.func98, Tryz.ntmps98
    go_wp2_with ((with_reducible refine Lay.bxL (L := imgL) 32 m ?_ ?_); exact rfl; intro W1 bm ebm cbm xbm; replace ebm := Lib.hid ebm; replace cbm := Lib.hid cbm; replace xbm := Lib.hid xbm; refine Hid.out ?_)
    refine Lib.hid ?_
    go_wp2_with ((with_reducible refine Lay.ldL Tryz.tImg m (xbm.out.in) ?_ ?_); exact rfl; refine Hid.out ?_)
    refine Lib.hid ?_
    go_wp2_with fail
    refine (HAT.out _ (RD.out.frame cbm.out)).mono ?_
    rintro e W2 ⟨rfl, hc⟩
    have C2 := Lib.hid (cbm.out.then hc)
    have X2 := Lib.hid (xbm.out.frame hc)
    clear hc
    go_wp2
    go_ret2
    exact ⟨rfl, C2.out⟩
  | some k =>
    have hk := idx_lt hat
    have hin := idx_true Seg.zero hat
    have hb := hls k hk
    rw [hat] at HAT
    unfold idxI at HAT
    have hwr : wordS ls l addr = if (ls.getD k .zero).size - (addr - (ls.getD k .zero).addr) < 8 then (0, 4) else (padI (partS l (ls.getD k .zero).off.toNat (ls.getD k .zero).fsize.toNat) (addr - (ls.getD k .zero).addr).toNat, 0) := by unfold wordS; rw [hat]
    obtain ⟨b, off, rfl, _, hcell⟩ := RD2.out.at (by omega)
    have hI : segL.In w b (off + k * 7) (ls.getD k .zero) := hcell k hk
    generalize ls.getD k .zero = s at *
    unfold SlV.v at hv
    have dk : ¬ (k : Int) < 0 := by omega
    have hi1 : s.addr ≤ addr ∧ addr - s.addr < s.size := by
      unfold inS at hin
      simp only [Bool.and_eq_true, decide_eq_true_eq] at hin
      exact hin.2
    unfold SegB at hb
    obtain ⟨O, hO⟩ : ∃ O : Nat, addr - s.addr = O := ⟨(addr - s.addr).toNat, by omega⟩
    have hw1 : IntKind.u64.wrap (addr - s.addr) = (O : Int) := by rw [IntKind.wrap_u64]; omega
    have hw2 : IntKind.u64.wrap (s.size - (O : Int)) = s.size - (O : Int) := by rw [IntKind.wrap_u64]; omega
    obtain ⟨SO, hSO⟩ : ∃ O : Nat, s.off = O := ⟨s.off.toNat, by omega⟩
    obtain ⟨SF, hSF⟩ : ∃ O : Nat, s.fsize = O := ⟨s.fsize.toNat, by omega⟩
    have HPT := Lib.hid (fun w rd => Part_any l (.slice av l.length capv) SO SF (by omega) (by omega) w rd hlen)
    have hO8 : s.size < 18446744073709551616 := by omega
    clear hcell hin hat hls ha hi1 rd
    have HI := Lib.hid hI
    clear hI
    rw [hwr, hO, hSO, hSF, Int.toNat_natCast, Int.toNat_natCast, Int.toNat_natCast]
    clear hwr
    have HO := Lib.hid hO
    have HSO := Lib.hid hSO
    have HSF := Lib.hid hSF
    clear hO hSO hSF
    by_cases h8 : s.size - (O : Int) < 8
    · have d8 : decide (s.size - (O : Int) < 8) = true := by simpa using h8
      rw [if_pos h8]
      clear hb h8 hO8
      go_enter Tryz.func98, Tryz.ntmps98
      go_wp2_with ((with_reducible refine Lay.bxL (L := imgL) 32 m ?_ ?_); exact rfl; intro W1 bm ebm cbm xbm; replace ebm := Lib.hid ebm; replace cbm := Lib.hid cbm; replace xbm := Lib.hid xbm; refine Hid.out ?_)
      refine Lib.hid ?_
      go_wp2_with ((with_reducible refine Lay.ldL Tryz.tImg m (xbm.out.in) ?_ ?_); exact rfl; refine Hid.out ?_)
      refine Lib.hid ?_
      go_wp2_with fail
      refine (HAT.out _ (RD.out.frame cbm.out)).mono ?_
      rintro e W2 ⟨rfl, hc⟩
      have C2 := Lib.hid (cbm.out.then hc)
      have X2 := Lib.hid (xbm.out.frame hc)
      clear hc
      have x4 := Img.c_segs X2.out
      rw [hv] at x4
      go_wp2_with ((with_reducible refine Lay.ldL Tryz.tSeg s ((HI.out.frame C2.out)) ?_ ?_); exact rfl; refine Hid.out ?_)
      refine Lib.hid ?_
      go_wp2_with ((with_reducible refine Lay.alL Tryz.tSeg ?_); intro W3 bs ebs cbs xbs; replace ebs := Lib.hid ebs; replace cbs := Lib.hid cbs; replace xbs := Lib.hid xbs; refine Hid.out ?_)
      refine Lib.hid ?_
      go_wp2_with ((with_reducible refine Lay.stL Tryz.tSeg s (xbs.out) ?_ ?_ ?_); exact rfl; exact rfl; intro W4 cW4 xW4; replace cW4 := Lib.hid cW4; replace xW4 := Lib.hid xW4; refine Hid.out ?_)
      refine Lib.hid ?_
      have C4 : Hid (Chg [] w W4) := Lib.hid (C2.out.then (cbs.out.new cW4.out (by rw [ebs.out]; exact Nat.le_refl _)))
      have x1 := Seg.c_addr xW4.out
      have x2 := Seg.c_size xW4.out
      have x3 := Seg.c_off xW4.out
      have x5 := Seg.c_fsize xW4.out
      clear x4
      go_wp2
      go_ret2
      exact ⟨rfl, C4.out⟩
    · have d8 : decide (s.size - (O : Int) < 8) = false := by simpa using h8
      rw [if_neg h8]
      obtain ⟨R, hR⟩ : ∃ R, R = padI (partS l SO SF) O := ⟨_, rfl⟩
      rw [← hR]
      have HR := Lib.hid hR
      clear hR
      have hOk : O + 8 < 18446744073709551616 := by omega
      clear hb h8 hO8
      have HOk := Lib.hid hOk
      clear hOk
      go_enter Tryz.func98, Tryz.ntmps98
      go_wp2_with ((with_reducible refine Lay.bxL (L := imgL) 32 m ?_ ?_); exact rfl; intro W1 bm ebm cbm xbm; replace ebm := Lib.hid ebm; replace cbm := Lib.hid cbm; replace xbm := Lib.hid xbm; refine Hid.out ?_)
      refine Lib.hid ?_
      go_wp2_with ((with_reducible refine Lay.ldL Tryz.tImg m (xbm.out.in) ?_ ?_); exact rfl; refine Hid.out ?_)
      refine Lib.hid ?_
      go_wp2_with fail
      refine (HAT.out _ (RD.out.frame cbm.out)).mono ?_
      rintro e W2 ⟨rfl, hc⟩
      have C2 := Lib.hid (cbm.out.then hc)
      have X2 := Lib.hid (xbm.out.frame hc)
      clear hc
      have x4 := Img.c_segs X2.out
      rw [hv] at x4
      go_wp2_with ((with_reducible refine Lay.ldL Tryz.tSeg s ((HI.out.frame C2.out)) ?_ ?_); exact rfl; refine Hid.out ?_)
      refine Lib.hid ?_
      go_wp2_with ((with_reducible refine Lay.alL Tryz.tSeg ?_); intro W3 bs ebs cbs xbs; replace ebs := Lib.hid ebs; replace cbs := Lib.hid cbs; replace xbs := Lib.hid xbs; refine Hid.out ?_)
      refine Lib.hid ?_
      go_wp2_with ((with_reducible refine Lay.stL Tryz.tSeg s (xbs.out) ?_ ?_ ?_); exact rfl; exact rfl; intro W4 cW4 xW4; replace cW4 := Lib.hid cW4; replace xW4 := Lib.hid xW4; refine Hid.out ?_)
      refine Lib.hid ?_
      have C4 : Hid (Chg [] w W4) := Lib.hid (C2.out.then (cbs.out.new cW4.out (by rw [ebs.out]; exact Nat.le_refl _)))
      have x1 := Seg.c_addr xW4.out
      have x2 := Seg.c_size xW4.out
      have x3 := Seg.c_off xW4.out
      have x5 := Seg.c_fsize xW4.out
      clear x4
      rw [HSO.out] at x3
      rw [HSF.out] at x5
      go_wp2_with fail
      refine (HPT.out _ (Rl.out.frame C4.out)).mono ?_
      rintro e W5 ⟨⟨v5, rfl, hp⟩, hc⟩
      obtain ⟨a5, c5, rfl, _, hc5⟩ := hp.shape
      obtain ⟨p, hpp⟩ : ∃ p, p = partS l SO SF := ⟨_, rfl⟩
      rw [← hpp] at hp ⊢
      have P5 := Lib.hid (hp)
      have C5 := Lib.hid (C4.out.then hc)
      have hwp : IntKind.u64.wrap (p.length : Int) = (p.length : Int) := by rw [IntKind.wrap_u64]; have := P5.out.shape; unfold maxLen at this; omega
      have Hc5 := Lib.hid hc5
      have Hpp := Lib.hid hpp
      clear hc5 hpp
      clear hc hp x1 x2 x3 x5 xW4 cW4
      go_wp2_with fail
      go_loop [12, 40] (fun acc i => ∃ (j : Nat), j ≤ 8 ∧ i = .int .u64 j ∧ acc = .int .u64 (leNum ((pad8 p O).take j))) (fun _ i => 8 - (intOf i).toNat)
      case atStart => exact ⟨0, by omega, rfl, rfl⟩
      case round =>
        obtain ⟨j, hj, rfl, rfl⟩ := hrel
        by_cases hlt : j < 8
        · have hwk : IntKind.u64.wrap ((O : Int) + (j : Int)) = ((O + j : Nat) : Int) := by rw [IntKind.wrap_u64]; have := HOk.out; omega
          have h8j : IntKind.u64.wrap (8 * (j : Int)) = ((8 * j : Nat) : Int) := by rw [IntKind.wrap_u64]; omega
          have hj1 : IntKind.u64.wrap ((j : Int) + 1) = ((j + 1 : Nat) : Int) := by rw [IntKind.wrap_u64]; omega
          by_cases hin : O + j < p.length
          · obtain ⟨b6, o6, rfl, _, hcell⟩ := P5.out.at (by omega)
            have hx := hcell (O + j) hin 0 (by decide)
            rw [show byteL.n = 1 from rfl, Nat.mul_one, Nat.add_zero] at hx
            have hx2 : W5.cell? ⟨b6, o6 + (O + j), none⟩ = some (.int .u8 (((pad8 p O)[j]?.getD 0).toNat : Nat)) := by rw [pad8_get p O j hlt]; exact hx
            have HS := Lib.hid (le_step (pad8 p O) j (by rw [pad8_len]; exact hlt) (by rw [pad8_len]; omega))
            clear hcell hx
            go_wp2
            go_round
            case rel => exact ⟨j + 1, by omega, by go_num, by rw [HS.out]⟩
            case measure => simp [intOf]; omega
          · have HS := Lib.hid (pad8_out p O j hlt (by omega))
            go_wp2
            go_round
            case rel => exact ⟨j + 1, by omega, by go_num, by rw [HS.out]⟩
            case measure => simp [intOf]; omega
        · obtain rfl : j = 8 := by omega
          have E2 : (pad8 p O).take 8 = pad8 p O := List.take_of_length_le (by rw [pad8_len]; omega)
          have E3 : ((leNum ((pad8 p O).take 8) : Nat) : Int) = R := by rw [E2, HR.out, ← Hpp.out]; unfold padI; rfl
          rw [E3]
          clear E2 E3
          go_wp2
          go_ret2
          exact ⟨rfl, C5.out⟩
end Go.Proofs.YtaipelkegemoeaaGreatDoor
/- Contracts of the library, proved once in the kit, laid at this seat's program (made by the kit's tools lay-shelf and lay-plain). -/
namespace Go.Proofs
open Go.Shelf
end Go.Proofs
/- Plain: an integer argument as a natural number, its bounds. -/
namespace Go.Proofs.YtaipelkegemoeaaGreatDoor
open Go.RowKit

end Go.Proofs.YtaipelkegemoeaaGreatDoor
/- What chapter 12's sentences lean on, cut out of this claim's other texts by shake.py; what is known of chapter 12. -/
namespace Go.Proofs.YtaipelkegemoeaaGreatDoor
open Go.RowKit
open Go.RowKit
open Go.RowKit
open Go.RowKit
set_option maxRecDepth 100000
theorem owned_frame12 {w w' : World} {base : Nat} {e : TypeId} {size : Nat} {v : Value} {n : Nat} {xs : List Value} (h : w.ownsRow base e size v n xs) {S : List Nat} (k : Chg S w w') (hn : ∀ b, v.ownBlock = some b → b ∉ S) : w'.ownsRow base e size v n xs := by
  refine ⟨h.1, ?_⟩
  rcases h.2 with hn' | ⟨g, cap, cur, rfl, hb, hgg, rest⟩
  · exact .inl hn'
  · exact .inr ⟨g, cap, cur, rfl, hb, k.heap hgg (hn g rfl), rest⟩
theorem owned_base12 {w : World} {base base' : Nat} {e : TypeId} {size : Nat} {v : Value} {n : Nat} {xs : List Value} (h : w.ownsRow base e size v n xs) (hb : base' ≤ base) : w.ownsRow base' e size v n xs := by
  refine ⟨h.1, ?_⟩
  rcases h.2 with hn' | ⟨g, cap, cur, rfl, hb', hgg, rest⟩
  · exact .inl hn'
  · exact .inr ⟨g, cap, cur, rfl, by omega, hgg, rest⟩
theorem bytesV_append12 (a b : List UInt8) : bytesV (a ++ b) = bytesV a ++ bytesV b := by simp [bytesV]
/-- A buffer of the call's own: its bytes. -/
def Buf12 (w : World) (base : Nat) (v : Value) (l : List UInt8) : Prop := w.ownsRow base 5 1 v l.length (bytesV l)
theorem Buf12.nil (w : World) (base : Nat) : Buf12 w base (.slice none 0 0) [] := World.ownsRow_nil w base 5 1
theorem Buf12.frame {w w' : World} {base : Nat} {v : Value} {l : List UInt8} (h : Buf12 w base v l) {S : List Nat} (k : Chg S w w') (hn : ∀ b, v.ownBlock = some b → b ∉ S) : Buf12 w' base v l := owned_frame12 h k hn
theorem Buf12.pure {w w' : World} {base : Nat} {v : Value} {l : List UInt8} (h : Buf12 w base v l) (k : Chg [] w w') : Buf12 w' base v l := h.frame k (fun _ _ hm => by cases hm)
theorem Buf12.rd {w : World} {base : Nat} {v : Value} {l : List UInt8} (h : Buf12 w base v l) : Rd w v (bytesV l) := Rd.owned h
theorem Buf12.app {w' : World} {base : Nat} {v : Value} {l m : List UInt8} (h : w'.ownsRow base 5 1 v (l.length + m.length) (bytesV l ++ bytesV m)) : Buf12 w' base v (l ++ m) := by
  unfold Buf12; rw [List.length_append, bytesV_append12]; exact h
section
variable {w w' : World} {base : Nat} {v1 v2 : Value} {l1 l2 : List UInt8}
end
set_option maxRecDepth 100000
open Go.RowKit
set_option maxRecDepth 100000
open Go.RowKit
set_option maxRecDepth 100000
theorem Buf12.form {w : World} {base : Nat} {v : Value} {l : List UInt8} (h : Buf12 w base v l) : ∃ a cap, v = .slice a l.length cap := by
  obtain ⟨a, n, cap, rfl, hn, _⟩ := h.rd
  rw [bytesV_length] at hn
  subst hn
  exact ⟨a, cap, rfl⟩
theorem Buf12.mono {w : World} {base base' : Nat} {v : Value} {l : List UInt8} (h : Buf12 w base v l) (hb : base' ≤ base) : Buf12 w base' v l := owned_base12 h hb
open Go.RowKit
set_option maxRecDepth 100000
open Go.RowKit
set_option maxRecDepth 100000
theorem getD_take {α : Type} (ls : List α) (d : α) (k : Nat) (h : k < ls.length) : ls.take (k + 1) = ls.take k ++ [ls.getD k d] := by
  rw [List.take_succ_eq_append_getElem h]; simp [List.getD_eq_getElem?_getD, h]
open Go.RowKit
set_option maxRecDepth 100000
open Go.RowKit
set_option maxRecDepth 100000
open Go.RowKit
set_option maxRecDepth 100000
section
end
open Go.RowKit
set_option maxRecDepth 100000
section
variable {o : Oper} {a : Act} {w : World} {K : Act → World → Prop} {Q : Exit → Act → World → Prop} {tm : Nat → Option Bool}
end
open Go.RowKit
set_option maxRecDepth 100000
section
variable {w0 w w' : World} {vb vp v' : Value} {lb new : List UInt8} {lp lp' : List Nat}
end
open Go.RowKit
set_option maxRecDepth 100000
def BufQ (w : World) (base : Nat) (v : Value) (l : List UInt8) : Prop :=
  ∃ g cap cur fz, v = .slice (some ⟨g, 0, none⟩) l.length cap ∧ base ≤ g ∧ w.heap[g]? = some (.cells cur 5 fz) ∧ (cap ≤ fz.1 ∨ fz.2 = 0) ∧ l.length ≤ cap ∧ cap ≤ maxLen ∧ cur.size = cap ∧ cur.toList.take l.length = bytesV l
theorem BufQ.lt {w : World} {base : Nat} {v : Value} {l : List UInt8} (h : BufQ w base v l) : ∀ k, v.ownBlock = some k → base ≤ k ∧ k < w.heap.size := by
  obtain ⟨g, cap, cur, fz, rfl, hb, hg, _⟩ := h
  intro k hk
  cases hk
  exact ⟨hb, lt_of_heap hg⟩
theorem BufQ.frame {w w' : World} {base : Nat} {v : Value} {l : List UInt8} (h : BufQ w base v l) {S : List Nat} (k : Chg S w w') (hn : ∀ b, v.ownBlock = some b → b ∉ S) : BufQ w' base v l := by
  obtain ⟨g, cap, cur, fz, rfl, hb, hg, rest⟩ := h
  exact ⟨g, cap, cur, fz, rfl, hb, k.heap hg (hn g rfl), rest⟩
theorem BufQ.pure {w w' : World} {base : Nat} {v : Value} {l : List UInt8} (h : BufQ w base v l) (k : Chg [] w w') : BufQ w' base v l := h.frame k (fun _ _ hm => by cases hm)
theorem BufQ.mono {w : World} {base base' : Nat} {v : Value} {l : List UInt8} (h : BufQ w base v l) (hb : base' ≤ base) : BufQ w base' v l := by
  obtain ⟨g, cap, cur, fz, hv, hg, rest⟩ := h
  exact ⟨g, cap, cur, fz, hv, Nat.le_trans hb hg, rest⟩
theorem BufQ.rd {w : World} {base : Nat} {v : Value} {l : List UInt8} (h : BufQ w base v l) : Rd w v (bytesV l) := by
  obtain ⟨g, cap, cur, fz, rfl, hb, hg, _, hc, hm, hs, ht⟩ := h
  refine ⟨_, _, _, rfl, (bytesV_length l).symm, hc, hm, fun _ => ⟨g, 0, rfl, fun j hj => ?_⟩⟩
  rw [bytesV_length] at hj
  rw [Nat.zero_add, cell_of_heap hg, ← ht, List.getElem?_take, if_pos hj]
  simp
theorem BufQ.form {w : World} {base : Nat} {v : Value} {l : List UInt8} (h : BufQ w base v l) : ∃ a cap, v = .slice a l.length cap := by
  obtain ⟨g, cap, cur, fz, rfl, _⟩ := h
  exact ⟨_, _, rfl⟩
section
variable {w0 w w' : World} {vb vp v' : Value} {lb new : List UInt8} {lp lp' : List Nat}
end
open Go.RowKit
set_option maxRecDepth 100000
open Go.RowKit
set_option maxRecDepth 100000
open Go.RowKit
set_option maxRecDepth 100000
open Go.RowKit
set_option maxRecDepth 100000
end Go.Proofs.YtaipelkegemoeaaGreatDoor
/- The order of fixups (plain): comparisons, one behind the other. -/
namespace Go.Proofs.YtaipelkegemoeaaGreatDoor
open Go.RowKit
set_option maxRecDepth 100000

/-- Which of two comes first. -/
structure IsCmp {α : Type} (c : α → α → Int) : Prop where
  anti : ∀ a b, c a b = - c b a
  one : ∀ a b, c a b = -1 ∨ c a b = 0 ∨ c a b = 1
  left : ∀ a b d, c a b = 0 → c a d = c b d
  trans : ∀ a b d, c a b ≤ 0 → c b d ≤ 0 → c a d ≤ 0
theorem IsCmp.right {α : Type} {c : α → α → Int} (h : IsCmp c) (a b d : α) (e : c a b = 0) : c d a = c d b := by
  rw [h.anti d a, h.anti d b, h.left a b d e]
def th (x y : Int) : Int := if x = 0 then y else x
theorem IsCmp.lex {α : Type} {c d : α → α → Int} (hc : IsCmp c) (hd : IsCmp d) : IsCmp fun a b => th (c a b) (d a b) := by
  refine ⟨fun a b => ?_, fun a b => ?_, fun a b x => ?_, fun a b x => ?_⟩
  · have h1 := hc.anti a b
    have h2 := hd.anti a b
    unfold th
    by_cases h : c a b = 0
    · rw [if_pos h, if_pos (by omega)]; exact h2
    · rw [if_neg h, if_neg (by omega)]; exact h1
  · have h1 := hc.one a b
    have h2 := hd.one a b
    unfold th
    split <;> assumption
  · unfold th
    intro h
    by_cases h0 : c a b = 0
    · rw [if_pos h0] at h
      rw [hc.left a b x h0, hd.left a b x h]
    · rw [if_neg h0] at h; exact absurd h h0
  · unfold th
    intro h1 h2
    have o1 := hc.one a b
    have o2 := hc.one b x
    have o3 := hc.one a x
    by_cases h0 : c a b = 0
    · rw [if_pos h0] at h1
      have e := hc.left a b x h0
      by_cases h3 : c b x = 0
      · rw [if_pos h3] at h2
        rw [if_pos (by omega)]
        exact hd.trans a b x h1 h2
      · rw [if_neg h3] at h2
        rw [if_neg (by omega)]
        omega
    · rw [if_neg h0] at h1
      by_cases h3 : c b x = 0
      · have e := hc.right b x a h3
        rw [if_neg (by omega)]
        omega
      · rw [if_neg h3] at h2
        have ht := hc.trans a b x h1 h2
        by_cases h4 : c a x = 0
        · have e := hc.left a x b h4
          have e2 := hc.anti x b
          omega
        · rw [if_neg h4]; exact ht
theorem IsCmp.by {α β : Type} {c : β → β → Int} (h : IsCmp c) (f : α → β) : IsCmp fun a b => c (f a) (f b) :=
  ⟨fun _ _ => h.anti _ _, fun _ _ => h.one _ _, fun _ _ _ => h.left _ _ _, fun _ _ _ => h.trans _ _ _⟩
def cmpI (x y : Int) : Int := if x < y then -1 else if y < x then 1 else 0
theorem cmpI_is : IsCmp cmpI := by
  refine ⟨fun a b => ?_, fun a b => ?_, fun a b d => ?_, fun a b d => ?_⟩ <;> unfold cmpI <;> (repeat' split) <;> omega
theorem cmpI_eq {x y : Int} : cmpI x y = 0 ↔ x = y := by unfold cmpI; (repeat' split) <;> omega
theorem bl_irrefl : ∀ l : List UInt8, Op.bytesLess l l = false
  | [] => rfl
  | a :: r => by simp [Op.bytesLess, bl_irrefl r]
theorem bl_asymm : ∀ l m : List UInt8, Op.bytesLess l m = true → Op.bytesLess m l = false
  | _, [], h => by simp [Op.bytesLess] at h
  | [], _ :: _, _ => by simp [Op.bytesLess]
  | a :: l, b :: m, h => by
    simp only [Op.bytesLess, Bool.or_eq_true, Bool.and_eq_true, decide_eq_true_eq, beq_iff_eq, Bool.or_eq_false_iff, decide_eq_false_iff_not, Bool.and_eq_false_iff, beq_eq_false_iff_ne] at h ⊢
    simp only [UInt8.lt_iff_toNat_lt, ← UInt8.toNat_inj, ne_eq] at h ⊢
    rcases h with h | ⟨h1, h2⟩
    · exact ⟨by omega, .inl (by omega)⟩
    · exact ⟨by omega, .inr (bl_asymm l m h2)⟩
theorem bl_tri : ∀ l m : List UInt8, Op.bytesLess l m = false → Op.bytesLess m l = false → l = m
  | [], [], _, _ => rfl
  | a :: l, [], _, h => by simp [Op.bytesLess] at h
  | [], _ :: _, h, _ => by simp [Op.bytesLess] at h
  | a :: l, b :: m, h, k => by
    simp only [Op.bytesLess, Bool.or_eq_false_iff, decide_eq_false_iff_not, Bool.and_eq_false_iff, beq_eq_false_iff_ne] at h k
    simp only [UInt8.lt_iff_toNat_lt, ← UInt8.toNat_inj, ne_eq] at h k
    have hab : a = b := UInt8.toNat_inj.1 (by omega)
    subst hab
    have h2 : Op.bytesLess l m = false := by rcases h.2 with h | h; · exact absurd rfl h
                                             · exact h
    have k2 : Op.bytesLess m l = false := by rcases k.2 with h | h; · exact absurd rfl h
                                             · exact h
    rw [bl_tri l m h2 k2]
theorem bl_trans : ∀ l m r : List UInt8, Op.bytesLess l m = true → Op.bytesLess m r = true → Op.bytesLess l r = true
  | _, [], _, h, _ => by simp [Op.bytesLess] at h
  | _, _ :: _, [], _, h => by simp [Op.bytesLess] at h
  | [], _ :: _, _ :: _, _, _ => by simp [Op.bytesLess]
  | a :: l, b :: m, c :: r, h, k => by
    simp only [Op.bytesLess, Bool.or_eq_true, Bool.and_eq_true, decide_eq_true_eq, beq_iff_eq] at h k ⊢
    simp only [UInt8.lt_iff_toNat_lt, ← UInt8.toNat_inj] at h k ⊢
    rcases h with h | ⟨h1, h2⟩
    · exact .inl (by rcases k with k | ⟨k, _⟩ <;> omega)
    · rcases k with k | ⟨k1, k2⟩
      · exact .inl (by omega)
      · exact .inr ⟨by omega, bl_trans l m r h2 k2⟩
def cmpS (x y : ByteArray) : Int := if Op.bytesLess x.toList y.toList then -1 else if Op.bytesLess y.toList x.toList then 1 else 0
theorem cmpS_is : IsCmp cmpS := by
  refine ⟨fun a b => ?_, fun a b => ?_, fun a b d => ?_, fun a b d => ?_⟩
  · unfold cmpS
    have h1 := bl_asymm a.toList b.toList
    have h2 := bl_asymm b.toList a.toList
    cases e1 : Op.bytesLess a.toList b.toList <;> cases e2 : Op.bytesLess b.toList a.toList <;> simp_all
  · unfold cmpS
    (repeat' split) <;> simp
  · unfold cmpS
    intro h
    have h3 := bl_tri a.toList b.toList
    have : a.toList = b.toList := by
      cases e1 : Op.bytesLess a.toList b.toList <;> cases e2 : Op.bytesLess b.toList a.toList <;> simp_all
    rw [this]
  · unfold cmpS
    intro h k
    cases e1 : Op.bytesLess b.toList a.toList with
    | true =>
      have := bl_asymm _ _ e1
      rw [this, e1] at h
      simp at h
    | false =>
      cases e2 : Op.bytesLess d.toList b.toList with
      | true =>
        have := bl_asymm _ _ e2
        rw [this, e2] at k
        simp at k
      | false =>
        have e3 : Op.bytesLess d.toList a.toList = false := by
          cases e : Op.bytesLess d.toList a.toList with
          | false => rfl
          | true =>
            cases e4 : Op.bytesLess a.toList b.toList with
            | true => rw [bl_trans _ _ _ e e4] at e2; cases e2
            | false => rw [bl_tri _ _ e4 e1] at e; rw [e] at e2; cases e2
        rw [e3]
        split <;> simp
theorem cmpS_eq {x y : ByteArray} : cmpS x y = 0 ↔ x = y := by
  constructor
  · intro h
    have : x.toList = y.toList := by
      refine bl_tri _ _ ?_ ?_ <;> unfold cmpS at h
      · cases e1 : Op.bytesLess x.toList y.toList <;> simp_all
      · cases e1 : Op.bytesLess x.toList y.toList <;> cases e2 : Op.bytesLess y.toList x.toList <;> simp_all
    rw [Lib.toList_data, Lib.toList_data] at this
    exact ByteArray.ext (Array.toList_inj.1 this)
  · rintro rfl
    unfold cmpS
    simp [bl_irrefl]

structure Fx where
  at_ : Int
  kind : Int
  tgt : Int
  ord : Int
  sym : ByteArray
  add : Int
  weak : Bool
def Fx.v (f : Fx) : Value := .agg #[.int .u64 f.at_, .int .i64 f.kind, .int .u64 f.tgt, .int .i64 f.ord, .string f.sym, .int .i64 f.add, .bool f.weak]
def wt (b : Bool) : Int := if b then 1 else 0
def ordF (a b : Fx) : Int := th (cmpI a.at_ b.at_) (th (cmpI a.kind b.kind) (th (cmpI a.tgt b.tgt) (th (cmpI a.ord b.ord) (th (cmpS a.sym b.sym) (th (cmpI a.add b.add) (cmpI (wt a.weak) (wt b.weak)))))))
theorem ordF_is : IsCmp ordF :=
  (cmpI_is.by Fx.at_).lex ((cmpI_is.by Fx.kind).lex ((cmpI_is.by Fx.tgt).lex ((cmpI_is.by Fx.ord).lex ((cmpS_is.by Fx.sym).lex ((cmpI_is.by Fx.add).lex (cmpI_is.by fun a : Fx => wt a.weak))))))
theorem th_eq {x y : Int} : th x y = 0 ↔ x = 0 ∧ y = 0 := by unfold th; split <;> omega
theorem wt_eq {x y : Bool} : wt x = wt y ↔ x = y := by cases x <;> cases y <;> decide
theorem ordF_eq {a b : Fx} : ordF a b = 0 ↔ a = b := by
  unfold ordF
  rw [th_eq, th_eq, th_eq, th_eq, th_eq, th_eq, cmpI_eq, cmpI_eq, cmpI_eq, cmpI_eq, cmpS_eq, cmpI_eq, cmpI_eq, wt_eq]
  cases a; cases b
  simp
end Go.Proofs.YtaipelkegemoeaaGreatDoor
/- Sets of fixups (plain). -/
namespace Go.Proofs.YtaipelkegemoeaaGreatDoor
set_option maxRecDepth 100000

instance : DecidableEq Fx := fun a b => decidable_of_iff (ordF a b = 0) ordF_eq
theorem ord_anti (a b : Fx) : ordF a b = - ordF b a := ordF_is.anti a b
theorem ord_lt_trans {a b c : Fx} (h : ordF a b < 0) (k : ordF b c < 0) : ordF a c < 0 := by
  have h1 := ordF_is.trans a b c (by omega) (by omega)
  have h2 : ordF a c ≠ 0 := fun e => by
    have := ordF_is.left a c b e
    have := ordF_is.anti c b
    omega
  omega
theorem ord_self (a : Fx) : ordF a a = 0 := ordF_eq.2 rfl
/-- In order, each once. -/
def SS (l : List Fx) : Prop := l.Pairwise fun a b => ordF a b < 0
/-- A fixup, put in where it stands, if it is not there. -/
def insF (x : Fx) : List Fx → List Fx
  | [] => [x]
  | y :: r => if ordF y x < 0 then y :: insF x r else if ordF y x = 0 then y :: r else x :: y :: r
theorem mem_insF {x z : Fx} {l : List Fx} : z ∈ insF x l ↔ z = x ∨ z ∈ l := by
  induction l with
  | nil => simp [insF]
  | cons y r ih =>
    unfold insF
    split
    · simp only [List.mem_cons, ih]
      constructor
      · rintro (h | h | h)
        · exact .inr (.inl h)
        · exact .inl h
        · exact .inr (.inr h)
      · rintro (h | h | h)
        · exact .inr (.inl h)
        · exact .inl h
        · exact .inr (.inr h)
    · split
      · rename_i h
        have : y = x := ordF_eq.1 h
        subst this
        simp
      · simp
theorem ss_insF {x : Fx} {l : List Fx} (h : SS l) : SS (insF x l) := by
  induction l with
  | nil => simp [insF, SS]
  | cons y r ih =>
    have h' := List.pairwise_cons.1 h
    unfold insF
    split
    · rename_i hy
      refine List.pairwise_cons.2 ⟨fun z hz => ?_, ih h'.2⟩
      rcases mem_insF.1 hz with rfl | hz
      · exact hy
      · exact h'.1 z hz
    · split
      · exact h
      · rename_i h1 h2
        have hx : ordF x y < 0 := by have := ord_anti x y; omega
        refine List.pairwise_cons.2 ⟨fun z hz => ?_, h⟩
        rcases List.mem_cons.1 hz with rfl | hz
        · exact hx
        · exact ord_lt_trans hx (h'.1 z hz)
def setF (l : List Fx) : List Fx := l.foldl (fun s x => insF x s) []
theorem setF_fold (l : List Fx) : ∀ s, SS s → SS (l.foldl (fun s x => insF x s) s) ∧ ∀ z, z ∈ l.foldl (fun s x => insF x s) s ↔ z ∈ s ∨ z ∈ l := by
  induction l with
  | nil => intro s hs; exact ⟨hs, fun z => by simp⟩
  | cons x r ih =>
    intro s hs
    obtain ⟨h1, h2⟩ := ih (insF x s) (ss_insF hs)
    refine ⟨h1, fun z => ?_⟩
    rw [List.foldl_cons, h2 z, mem_insF, List.mem_cons]
    constructor
    · rintro ((h | h) | h)
      · exact .inr (.inl h)
      · exact .inl h
      · exact .inr (.inr h)
    · rintro (h | h | h)
      · exact .inl (.inr h)
      · exact .inl (.inl h)
      · exact .inr h
theorem ss_setF (l : List Fx) : SS (setF l) := (setF_fold l [] List.Pairwise.nil).1
theorem mem_setF {z : Fx} {l : List Fx} : z ∈ setF l ↔ z ∈ l := by
  have := (setF_fold l [] List.Pairwise.nil).2 z
  simpa [setF] using this
theorem setF_snoc (l : List Fx) (x : Fx) : setF (l ++ [x]) = insF x (setF l) := by simp [setF, List.foldl_append]
/-- Two lists in order, with the same in them, are one. -/
theorem ss_unique : ∀ {l m : List Fx}, SS l → SS m → (∀ z, z ∈ l ↔ z ∈ m) → l = m
  | [], [], _, _, _ => rfl
  | [], y :: m, _, _, h => by have := (h y).2 (List.mem_cons_self ..); cases this
  | x :: l, [], _, _, h => by have := (h x).1 (List.mem_cons_self ..); cases this
  | x :: l, y :: m, hl, hm, h => by
    have hl' := List.pairwise_cons.1 hl
    have hm' := List.pairwise_cons.1 hm
    have hxy : x = y := by
      rcases List.mem_cons.1 ((h x).1 (List.mem_cons_self ..)) with e | e
      · exact e
      rcases List.mem_cons.1 ((h y).2 (List.mem_cons_self ..)) with e' | e'
      · exact e'.symm
      have h1 := hm'.1 x e
      have h2 := hl'.1 y e'
      have := ord_lt_trans h1 h2
      rw [ord_self] at this
      omega
    subst hxy
    congr 1
    refine ss_unique hl'.2 hm'.2 (fun z => ?_)
    constructor
    · intro hz
      rcases List.mem_cons.1 ((h z).1 (List.mem_cons_of_mem _ hz)) with e | e
      · subst e; have := hl'.1 z hz; rw [ord_self] at this; omega
      · exact e
    · intro hz
      rcases List.mem_cons.1 ((h z).2 (List.mem_cons_of_mem _ hz)) with e | e
      · subst e; have := hm'.1 z hz; rw [ord_self] at this; omega
      · exact e
theorem setF_perm {l m : List Fx} (h : ∀ z, z ∈ l ↔ z ∈ m) : setF l = setF m := ss_unique (ss_setF l) (ss_setF m) (fun z => by rw [mem_setF, mem_setF]; exact h z)
theorem setF_len (l : List Fx) : (setF l).length ≤ l.length := by
  have key : ∀ (l s : List Fx), (l.foldl (fun s x => insF x s) s).length ≤ s.length + l.length := by
    intro l
    induction l with
    | nil => intro s; exact Nat.le_refl _
    | cons x r ih =>
      intro s
      have h1 := ih (insF x s)
      have h2 : ∀ s : List Fx, (insF x s).length ≤ s.length + 1 := by
        intro s
        induction s with
        | nil => exact Nat.le_refl _
        | cons y t ih2 =>
          unfold insF
          split
          · simp only [List.length_cons]; omega
          · split
            · simp
            · simp
      have := h2 s
      rw [List.foldl_cons, List.length_cons]
      omega
  simpa [setF] using key l []
/-- Where a fixup is put in: behind those that are less. -/
theorem insF_at (x : Fx) : ∀ (l : List Fx) (k : Nat), SS l → k ≤ l.length → (∀ j y, j < k → l[j]? = some y → ordF y x < 0) → (∀ j y, k ≤ j → l[j]? = some y → ¬ ordF y x < 0) →
    insF x l = if l[k]? = some x then l else l.take k ++ x :: l.drop k
  | [], k, _, hk, _, _ => by
    obtain rfl : k = 0 := by simpa using hk
    simp [insF]
  | y :: r, 0, hs, _, _, h2 => by
    have hy := h2 0 y (Nat.le_refl _) rfl
    unfold insF
    rw [if_neg hy]
    by_cases he : ordF y x = 0
    · have := ordF_eq.1 he
      subst this
      rw [if_pos he]
      simp
    · rw [if_neg he, if_neg (fun e => he (by simp at e; rw [e]; exact ord_self x))]
      rfl
  | y :: r, k + 1, hs, hk, h1, h2 => by
    have hy := h1 0 y (by omega) rfl
    have ih := insF_at x r k (List.pairwise_cons.1 hs).2 (by simpa using hk) (fun j z hj hz => h1 (j + 1) z (by omega) hz) (fun j z hj hz => h2 (j + 1) z (by omega) hz)
    unfold insF
    rw [if_pos hy, ih]
    simp only [List.getElem?_cons_succ, List.take_succ_cons, List.drop_succ_cons]
    split <;> rfl
/-- In order: the same may stand twice. -/
def SLfx (l : List Fx) : Prop := l.Pairwise fun a b => ¬ ordF b a < 0
/-- Without what is there twice, side by side. -/
def compF : List Fx → List Fx
  | [] => []
  | [x] => [x]
  | x :: y :: r => if x = y then compF (y :: r) else x :: compF (y :: r)
theorem mem_compF {z : Fx} : ∀ {l : List Fx}, z ∈ compF l ↔ z ∈ l
  | [] => by simp [compF]
  | [x] => by simp [compF]
  | x :: y :: r => by
    have ih := mem_compF (z := z) (l := y :: r)
    unfold compF
    split
    · rename_i h
      rw [ih, h]
      simp
    · rw [List.mem_cons, ih, List.mem_cons (a := z) (b := x)]
theorem ss_compF : ∀ {l : List Fx}, SLfx l → SS (compF l)
  | [], _ => List.Pairwise.nil
  | [x], _ => by simp [compF, SS]
  | x :: y :: r, h => by
    have h' := List.pairwise_cons.1 h
    have ih := ss_compF (l := y :: r) h'.2
    unfold compF
    split
    · exact ih
    · rename_i hne
      refine List.pairwise_cons.2 ⟨fun z hz => ?_, ih⟩
      have h1 : ¬ ordF y x < 0 := h'.1 y (List.mem_cons_self ..)
      have h2 : ordF x y < 0 := by
        have h3 := ordF_is.one x y
        have h4 := ord_anti x y
        have h5 : ordF x y ≠ 0 := fun e => hne (ordF_eq.1 e)
        omega
      rcases List.mem_cons.1 (mem_compF.1 hz) with rfl | hz
      · exact h2
      · have h6 : ¬ ordF z y < 0 := (List.pairwise_cons.1 h'.2).1 z hz
        have h7 := ord_anti z y
        by_cases e : ordF y z = 0
        · rw [← ordF_eq.1 e]; exact h2
        · exact ord_lt_trans h2 (by have := ordF_is.one y z; omega)
theorem compF_set {l : List Fx} (h : SLfx l) : compF l = setF l := ss_unique (ss_compF h) (ss_setF l) (fun z => by rw [mem_compF, mem_setF])
/-- Do two of them, one unlike the other, stand less than 8 bytes apart? -/
def apart8 (a b : Fx) : Bool := decide ((if a.at_ < b.at_ then b.at_ - a.at_ else a.at_ - b.at_) < 8)
def meetF (l : List Fx) : Bool := l.any fun a => l.any fun b => decide (a ≠ b) && apart8 a b
end Go.Proofs.YtaipelkegemoeaaGreatDoor
/- Plain: the state of one who goes over a stream of rebases. -/
namespace Go.Proofs.YtaipelkegemoeaaGreatDoor
open Go.RowKit
set_option maxRecDepth 100000

structure RS where
  at_ : Nat
  is_ : Bool
  typ : Int
  out : List Fx
def rebF (a t : Int) : Fx := ⟨a, 1, t, 0, ⟨#[]⟩, 0, false⟩
end Go.Proofs.YtaipelkegemoeaaGreatDoor
