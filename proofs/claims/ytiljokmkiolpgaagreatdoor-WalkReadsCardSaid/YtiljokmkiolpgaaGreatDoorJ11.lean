/- Lemmas, laid together: part 11 of 42. Conditions: none but each lemma's own. -/
import Derived.Test.YtiljokmkiolpgaaGreatDoorJ10
import Derived.Test.YtiljokmkiolpgaaGreatDoorJ1
import Derived.Test.YtiljokmkiolpgaaGreatDoorJ4
import Derived.Test.YtiljokmkiolpgaaGreatDoorJ3
import Derived.Test.YtiljokmkiolpgaaGreatDoorProg
import Derived.Test.YtiljokmkiolpgaaGreatDoorJ2
import Derived.Shelf.LaysM
import Derived.Shelf.Bytes.SlIndexAt
import Derived.Shelf.Bytes.IndexByte
import Derived.Laws.BytesString
namespace Go.Proofs.YtiljokmkiolpgaaGreatDoor
open Go.RowKit
set_option maxRecDepth 100000
def pad8 (l : List UInt8) (o : Nat) : List UInt8 := (List.range 8).map fun j => l.getD (o + j) 0
theorem pad8_len (l : List UInt8) (o : Nat) : (pad8 l o).length = 8 := by simp [pad8]
theorem pad8_get (l : List UInt8) (o k : Nat) (h : k < 8) : (pad8 l o)[k]?.getD 0 = l.getD (o + k) 0 := by simp [pad8, h]
theorem pad8_out (l : List UInt8) (o k : Nat) (h : k < 8) (hl : l.length ≤ o + k) : leNum ((pad8 l o).take (k + 1)) = leNum ((pad8 l o).take k) := by
 rw [take_snoc8 _ _ (by rw [pad8_len]; exact h), leNum_snoc, pad8_get l o k h, List.getD_eq_getElem?_getD, List.getElem?_eq_none hl]
 simp
def padI (l : List UInt8) (o : Nat) : Int := ((leNum (pad8 l o) : Nat) : Int)
def wordS (ls : List Seg) (l : List UInt8) (addr : Int) : Int × Int := match atS ls addr with
 | none => (0, 4)
 | some k => if (ls.getD k .zero).size - (addr - (ls.getD k .zero).addr) < 8 then (0, 4) else (padI (partS l (ls.getD k .zero).off.toNat (ls.getD k .zero).fsize.toNat) (addr - (ls.getD k .zero).addr).toNat, 0)
set_option maxHeartbeats 2000000 in
theorem Word_any (l : List UInt8) (v : Value) (m : Img) (ls : List Seg) (hls : SegsB ls) (addr : Int) (ha : addr < 18446744073709551616) (w : World) (rl : byteL.Rd w v l) (hlen : l.length ≤ 100000000) (rd : segL.Rd w m.segs.v ls) :
  Calls Tryz.prog 55 #[v, imgL.val m, .int .u64 addr] w fun e w' => e = .returned (.tuple #[.int .u64 (wordS ls l addr).1, .int .i64 (wordS ls l addr).2]) ∧ Chg [] w w' := by
 have HAT := hY (At_img m ls hls addr ha)
 obtain ⟨av, capv, rfl, _, hcv⟩ := rl.shape
 obtain ⟨a, cap, hv, hc1, hc2⟩ := rd.shape
 have rd' := rd
 rw [hv] at rd'
 have RD := hY (rd)
 have RD2 := hY rd'
 have Hc2 := hY hc2
 have Hcv := hY hcv
 have Rl := hY rl
 clear rd' hc2 hcv rl
 clear hc1
 cases hat : atS ls addr with
 | none =>
  rw [show wordS ls l addr = (0, 4) by unfold wordS; rw [hat]]
  rw [hat] at HAT
  unfold idxI at HAT
  clear hat hls ha rd hv
  go_enter Tryz.func55, Tryz.ntmps55
  go_wp2_with ((with_reducible refine Lay.bxQ (L := imgL) 32 m ?_ ?_); exact rfl)
  refine hY fun W1 bm ebm cbm xbm => ?_
  go_wp2_with ((with_reducible refine Lay.ldQ Tryz.tImg m (xbm.out.in) ?_ ?_); exact rfl)
  refine hY ?_
  go_wp2_with fail
  refine (HAT.out _ (RD.out.frame cbm.out)).mono ?_
  rintro e W2 ⟨rfl, hc⟩
  have C2 := hY (cbm.out.then hc)
  have X2 := hY (xbm.out.frame hc)
  clear hc
  go_wp2
  go_ret2
  exact ⟨rfl, C2.out⟩
 | some k =>
  have hk := idx_lt hat
  have hin := idx_true Seg.zero hat
  have hb := hls k hk
  rw [hat] at HAT
  unfold idxI at HAT
  have hwr : wordS ls l addr = if (ls.getD k .zero).size - (addr - (ls.getD k .zero).addr) < 8 then (0, 4) else (padI (partS l (ls.getD k .zero).off.toNat (ls.getD k .zero).fsize.toNat) (addr - (ls.getD k .zero).addr).toNat, 0) := by unfold wordS; rw [hat]
  obtain ⟨b, off, rfl, _, hcell⟩ := RD2.out.at (by omega)
  have hI : segL.In w b (off + k * 7) (ls.getD k .zero) := hcell k hk
  generalize ls.getD k .zero = s at *
  unfold SlV.v at hv
  have dk : ¬ (k : Int) < 0 := by omega
  have hi1 : s.addr ≤ addr ∧ addr - s.addr < s.size := by
   unfold inS at hin
   simp only [Bool.and_eq_true, decide_eq_true_eq] at hin
   exact hin.2
  unfold SegB at hb
  obtain ⟨O, hO⟩ : ∃ O : Nat, addr - s.addr = O := ⟨(addr - s.addr).toNat, by omega⟩
  have hw1 : IntKind.u64.wrap (addr - s.addr) = (O : Int) := by rw [IntKind.wrap_u64]; omega
  have hw2 : IntKind.u64.wrap (s.size - (O : Int)) = s.size - (O : Int) := by rw [IntKind.wrap_u64]; omega
  obtain ⟨SO, hSO⟩ : ∃ O : Nat, s.off = O := ⟨s.off.toNat, by omega⟩
  obtain ⟨SF, hSF⟩ : ∃ O : Nat, s.fsize = O := ⟨s.fsize.toNat, by omega⟩
  have HPT := hY (fun w rd => Part_any l (.slice av l.length capv) SO SF (by omega) (by omega) w rd hlen)
  have hO8 : s.size < 18446744073709551616 := by omega
  clear hcell hin hat hls ha hi1 rd
  have HI := hY hI
  clear hI
  rw [hwr, hO, hSO, hSF, Int.toNat_natCast, Int.toNat_natCast, Int.toNat_natCast]
  clear hwr
  have HO := hY hO
  have HSO := hY hSO
  have HSF := hY hSF
  clear hO hSO hSF
  by_cases h8 : s.size - (O : Int) < 8
  ·have d8 : decide (s.size - (O : Int) < 8) = true := by simpa using h8
   rw [if_pos h8]
   clear hb h8 hO8
   go_enter Tryz.func55, Tryz.ntmps55
   go_wp2_with ((with_reducible refine Lay.bxQ (L := imgL) 32 m ?_ ?_); exact rfl)
   refine hY fun W1 bm ebm cbm xbm => ?_
   go_wp2_with ((with_reducible refine Lay.ldQ Tryz.tImg m (xbm.out.in) ?_ ?_); exact rfl)
   refine hY ?_
   go_wp2_with fail
   refine (HAT.out _ (RD.out.frame cbm.out)).mono ?_
   rintro e W2 ⟨rfl, hc⟩
   have C2 := hY (cbm.out.then hc)
   have X2 := hY (xbm.out.frame hc)
   clear hc
   have x4 := Img.c_segs X2.out
   rw [hv] at x4
   go_wp2_with ((with_reducible refine Lay.ldQ Tryz.tSeg s ((HI.out.frame C2.out)) ?_ ?_); exact rfl)
   refine hY ?_
   go_wp2_with (with_reducible refine Lay.alQ Tryz.tSeg ?_)
   refine hY fun W3 bs ebs cbs xbs => ?_
   go_wp2_with ((with_reducible refine Lay.stQ Tryz.tSeg s (xbs.out) ?_ ?_ ?_); exact rfl; exact rfl)
   refine hY fun W4 cW4 xW4 => ?_
   have C4 : Hid (Chg [] w W4) := hY (C2.out.then (cbs.out.new cW4.out (by rw [ebs.out]; exact Nat.le_refl _)))
   have x1 := Seg.c_addr xW4.out
   have x2 := Seg.c_size xW4.out
   have x3 := Seg.c_off xW4.out
   have x5 := Seg.c_fsize xW4.out
   clear x4
   go_wp2
   go_ret2
   exact ⟨rfl, C4.out⟩
  ·have d8 : decide (s.size - (O : Int) < 8) = false := by simpa using h8
   rw [if_neg h8]
   obtain ⟨R, hR⟩ : ∃ R, R = padI (partS l SO SF) O := ⟨_, rfl⟩
   rw [← hR]
   have HR := hY hR
   clear hR
   have hOk : O + 8 < 18446744073709551616 := by omega
   clear hb h8 hO8
   have HOk := hY hOk
   clear hOk
   go_enter Tryz.func55, Tryz.ntmps55
   go_wp2_with ((with_reducible refine Lay.bxQ (L := imgL) 32 m ?_ ?_); exact rfl)
   refine hY fun W1 bm ebm cbm xbm => ?_
   go_wp2_with ((with_reducible refine Lay.ldQ Tryz.tImg m (xbm.out.in) ?_ ?_); exact rfl)
   refine hY ?_
   go_wp2_with fail
   refine (HAT.out _ (RD.out.frame cbm.out)).mono ?_
   rintro e W2 ⟨rfl, hc⟩
   have C2 := hY (cbm.out.then hc)
   have X2 := hY (xbm.out.frame hc)
   clear hc
   have x4 := Img.c_segs X2.out
   rw [hv] at x4
   go_wp2_with ((with_reducible refine Lay.ldQ Tryz.tSeg s ((HI.out.frame C2.out)) ?_ ?_); exact rfl)
   refine hY ?_
   go_wp2_with (with_reducible refine Lay.alQ Tryz.tSeg ?_)
   refine hY fun W3 bs ebs cbs xbs => ?_
   go_wp2_with ((with_reducible refine Lay.stQ Tryz.tSeg s (xbs.out) ?_ ?_ ?_); exact rfl; exact rfl)
   refine hY fun W4 cW4 xW4 => ?_
   have C4 : Hid (Chg [] w W4) := hY (C2.out.then (cbs.out.new cW4.out (by rw [ebs.out]; exact Nat.le_refl _)))
   have x1 := Seg.c_addr xW4.out
   have x2 := Seg.c_size xW4.out
   have x3 := Seg.c_off xW4.out
   have x5 := Seg.c_fsize xW4.out
   clear x4
   rw [HSO.out] at x3
   rw [HSF.out] at x5
   go_wp2_with fail
   refine (HPT.out _ (Rl.out.frame C4.out)).mono ?_
   rintro e W5 ⟨⟨v5, rfl, hp⟩, hc⟩
   obtain ⟨a5, c5, rfl, _, hc5⟩ := hp.shape
   obtain ⟨p, hpp⟩ : ∃ p, p = partS l SO SF := ⟨_, rfl⟩
   rw [← hpp] at hp ⊢
   have P5 := hY (hp)
   have C5 := hY (C4.out.then hc)
   have hwp : IntKind.u64.wrap (p.length : Int) = (p.length : Int) := by rw [IntKind.wrap_u64]; have := P5.out.shape; unfold maxLen at this; omega
   have Hc5 := hY hc5
   have Hpp := hY hpp
   clear hc5 hpp
   clear hc hp x1 x2 x3 x5 xW4 cW4
   go_wp2_with fail
   go_loop [12, 40] (fun acc i => ∃ (j : Nat), j ≤ 8 ∧ i = .int .u64 j ∧ acc = .int .u64 (leNum ((pad8 p O).take j))) (fun _ i => 8 - (intOf i).toNat)
   case atStart => exact ⟨0, by omega, rfl, rfl⟩
   case round =>
    obtain ⟨j, hj, rfl, rfl⟩ := hrel
    by_cases hlt : j < 8
    ·have hwk : IntKind.u64.wrap ((O : Int) + (j : Int)) = ((O + j : Nat) : Int) := by rw [IntKind.wrap_u64]; have := HOk.out; omega
     have h8j : IntKind.u64.wrap (8 * (j : Int)) = ((8 * j : Nat) : Int) := by rw [IntKind.wrap_u64]; omega
     have hj1 : IntKind.u64.wrap ((j : Int) + 1) = ((j + 1 : Nat) : Int) := by rw [IntKind.wrap_u64]; omega
     by_cases hin : O + j < p.length
     ·obtain ⟨b6, o6, rfl, _, hcell⟩ := P5.out.at (by omega)
      have hx := hcell (O + j) hin 0 (by decide)
      rw [show byteL.n = 1 from rfl, Nat.mul_one, Nat.add_zero] at hx
      have hx2 : W5.cell? ⟨b6, o6 + (O + j), none⟩ = some (.int .u8 (((pad8 p O)[j]?.getD 0).toNat : Nat)) := by rw [pad8_get p O j hlt]; exact hx
      have HS := hY (le_step (pad8 p O) j (by rw [pad8_len]; exact hlt) (by rw [pad8_len]; omega))
      clear hcell hx
      go_wp2
      go_round
      case rel => exact ⟨j + 1, by omega, by go_num, by rw [HS.out]⟩
      case measure => simp [intOf]; omega
     ·have HS := hY (pad8_out p O j hlt (by omega))
      go_wp2
      go_round
      case rel => exact ⟨j + 1, by omega, by go_num, by rw [HS.out]⟩
      case measure => simp [intOf]; omega
    ·obtain rfl : j = 8 := by omega
     have E2 : (pad8 p O).take 8 = pad8 p O := List.take_of_length_le (by rw [pad8_len]; omega)
     have E3 : ((leNum ((pad8 p O).take 8) : Nat) : Int) = R := by rw [E2, HR.out, ← Hpp.out]; unfold padI; rfl
     rw [E3]
     clear E2 E3
     go_wp2
     go_ret2
     exact ⟨rfl, C5.out⟩
def folC (l : List UInt8) (ls : List Seg) (imps : List Imp) (top page fm first : Int) : Nat → Int → List Fx → ChR (List Fx)
 | 0, _, _ => .bad 15
 | n + 1, at_, acc =>
  if page < at_ + 8 ∨ top < first + at_ + 8 then .bad 15 else
  if acc.length = 20000 then .bad 11 else
  if linkE (lowS ls).toNat fm (wordS ls l (first + at_)).1.toNat imps ≠ 0 then .bad (linkE (lowS ls).toNat fm (wordS ls l (first + at_)).1.toNat imps) else
  if linkN (lowS ls).toNat fm (wordS ls l (first + at_)).1.toNat imps * strideF fm = 0 then .ok (acc ++ [{ linkX (lowS ls).toNat fm (wordS ls l (first + at_)).1.toNat imps with at_ := first + at_ }]) else
  if linkN (lowS ls).toNat fm (wordS ls l (first + at_)).1.toNat imps * strideF fm < 8 then .bad 15 else
  folC l ls imps top page fm first n (at_ + linkN (lowS ls).toNat fm (wordS ls l (first + at_)).1.toNat imps * strideF fm) (acc ++ [{ linkX (lowS ls).toNat fm (wordS ls l (first + at_)).1.toNat imps with at_ := first + at_ }])
def pgsC (l : List UInt8) (ls : List Seg) (imps : List Imp) (addr top page fm : Int) : List Int → Nat → List Fx → ChR (List Fx)
 | [], _, acc => .ok acc
 | b :: bs, i, acc => if b < 0 then pgsC l ls imps addr top page fm bs (i + 1) acc else
  (folC l ls imps top page fm (addr + i * page) 2049 b acc).then fun a => pgsC l ls imps addr top page fm bs (i + 1) a
def fixsC (l : List UInt8) (ls : List Seg) (imps : List Imp) : List StP → List Fx → ChR (List Fx)
 | [], acc => .ok acc
 | s :: ss, acc => (pgsC l ls imps (ls.getD s.seg.toNat .zero).addr ((ls.getD s.seg.toNat .zero).addr + (ls.getD s.seg.toNat .zero).size) s.page s.fmt s.begins 0 acc).then fun a => fixsC l ls imps ss a
def fixupsC (l : List UInt8) (ls : List Seg) (d off size : Nat) : ChR (List Fx) :=
 if size = 0 then .ok [] else (readC (partS l off size) ls d).then fun c => fixsC l ls c.2 c.1 []
def Asc (l : List Fx) (q : Int) : Prop := l.Pairwise (fun a b => a.at_ + 8 ≤ b.at_) ∧ ∀ x ∈ l, x.at_ + 8 ≤ q
theorem Asc.nil (q : Int) : Asc [] q := ⟨List.Pairwise.nil, fun x h => by cases h⟩
theorem Asc.mono {l : List Fx} {p q : Int} (h : Asc l p) (hq : p ≤ q) : Asc l q := ⟨h.1, fun x hx => Int.le_trans (h.2 x hx) hq⟩
theorem Asc.snoc {l : List Fx} {p q : Int} (h : Asc l p) (x : Fx) (hx : p ≤ x.at_) (hq : x.at_ + 8 ≤ q) : Asc (l ++ [x]) q := by
 refine ⟨List.pairwise_append.2 ⟨h.1, List.pairwise_singleton _ _, fun a ha b hb => ?_⟩, fun y hy => ?_⟩
 ·rw [List.mem_singleton] at hb
  subst hb
  exact Int.le_trans (h.2 a ha) hx
 ·rcases List.mem_append.1 hy with hy | hy
  ·have := h.2 y hy
   omega
  ·rw [List.mem_singleton] at hy
   subst hy
   exact hq
theorem folC_asc (l : List UInt8) (ls : List Seg) (imps : List Imp) (top page fm first : Int) : ∀ (n : Nat) (at_ : Int) (acc a : List Fx), Asc acc (first + at_) → folC l ls imps top page fm first n at_ acc = .ok a → Asc a (first + page) ∧ Asc a top := by
 intro n
 induction n with
 | zero => intro at_ acc a _ h; cases h
 | succ n ih =>
  intro at_ acc a hA h
  unfold folC at h
  split at h
  ·cases h
  rename_i h1
  split at h
  ·cases h
  split at h
  ·cases h
  split at h
  ·injection h with h
   subst h
   exact ⟨hA.snoc _ (Int.le_refl _) (by dsimp only; omega), hA.snoc _ (Int.le_refl _) (by dsimp only; omega)⟩
  split at h
  ·cases h
  rename_i h4
  exact ih _ _ a (hA.snoc _ (Int.le_refl _) (by dsimp only; omega)) h
theorem pgsC_asc (l : List UInt8) (ls : List Seg) (imps : List Imp) (addr top page fm : Int) (hp : 0 ≤ page) : ∀ (bs : List Int) (i : Nat) (acc a : List Fx), Asc acc (addr + i * page) → Asc acc top → pgsC l ls imps addr top page fm bs i acc = .ok a → Asc a top := by
 intro bs
 induction bs with
 | nil => intro i acc a _ h2 h; injection h with h; subst h; exact h2
 | cons b bs ih =>
  intro i acc a h1 h2 h
  have e : addr + ((i + 1 : Nat) : Int) * page = addr + i * page + page := by rw [Int.natCast_add, Int.add_mul]; omega
  unfold pgsC at h
  split at h
  ·exact ih (i + 1) acc a (by rw [e]; exact h1.mono (by omega)) h2 h
  ·rename_i hb
   cases hf : folC l ls imps top page fm (addr + i * page) 2049 b acc with
   | bad x => rw [hf] at h; cases h
   | ok c =>
    rw [hf] at h
    have hc := folC_asc l ls imps top page fm _ 2049 b acc c (h1.mono (by omega)) hf
    exact ih (i + 1) c a (by rw [e]; exact hc.1) hc.2 h
def SegsUp (ls : List Seg) : Prop := ∀ j k, j < k → k < ls.length → (ls.getD j .zero).addr + (ls.getD j .zero).size ≤ (ls.getD k .zero).addr
def StsUp (ls : List Seg) (ss : List StP) : Prop := ss.Pairwise (fun a b => a.seg.toNat < b.seg.toNat) ∧ ∀ s ∈ ss, s.seg.toNat < ls.length ∧ 0 ≤ s.page ∧ 0 ≤ (ls.getD s.seg.toNat .zero).size
theorem fixsC_asc (l : List UInt8) (ls : List Seg) (imps : List Imp) (hu : SegsUp ls) : ∀ (ss : List StP) (acc a : List Fx) (q : Int), StsUp ls ss → Asc acc q → (∀ s ∈ ss, q ≤ (ls.getD s.seg.toNat .zero).addr) → fixsC l ls imps ss acc = .ok a → ∃ r, Asc a r := by
 intro ss
 induction ss with
 | nil => intro acc a q _ h _ e; injection e with e; subst e; exact ⟨q, h⟩
 | cons s ss ih =>
  intro acc a q hS hA hq e
  unfold fixsC at e
  have h1 := hS.2 s (List.mem_cons_self ..)
  have h2 := hq s (List.mem_cons_self ..)
  have h3 := List.pairwise_cons.1 hS.1
  cases hf : pgsC l ls imps (ls.getD s.seg.toNat .zero).addr ((ls.getD s.seg.toNat .zero).addr + (ls.getD s.seg.toNat .zero).size) s.page s.fmt s.begins 0 acc with
  | bad x => rw [hf] at e; cases e
  | ok c =>
   rw [hf] at e
   have hc := pgsC_asc l ls imps _ _ s.page s.fmt h1.2.1 s.begins 0 acc c (hA.mono (by simp; exact h2)) (hA.mono (by omega)) hf
   refine ih c a _ ⟨h3.2, fun t ht => hS.2 t (List.mem_cons_of_mem _ ht)⟩ hc (fun t ht => ?_) e
   exact hu _ _ (h3.1 t ht) (hS.2 t (List.mem_cons_of_mem _ ht)).1
def StOk (ls : List Seg) (s : StP) : Prop := s.seg.toNat < ls.length ∧ (s.page = 4096 ∨ s.page = 16384) ∧ holeS (ls.getD s.seg.toNat .zero) = false ∧ 0 < strideF s.fmt
theorem startC_ok {B : List UInt8} {ls : List Seg} {i q : Nat} {s : StP} (hi : i < ls.length) (h : startC B ls i q = .ok s) : s.seg = (i : Int) ∧ StOk ls s := by
 unfold startC at h
 split at h
 ·split at h
  ·rename_i h2
   split at h
   ·rename_i h3
    split at h
    ·generalize hb : begC B (WN B (q + 4) 2 : Nat) (strideF (WN B (q + 6) 2 : Nat)) (WN B (q + 20) 2) (q + 22) [] = r at h
     cases r with
     | bad e => cases h
     | ok l =>
      injection h with h
      subst h
      refine ⟨rfl, hi, ?_, h2.1, h3.2⟩
      have := h3.1
      dsimp only
      omega
    ·cases h
   ·cases h
  ·cases h
 ·cases h
theorem stsC_up {B : List UInt8} {ls : List Seg} {q : Nat} : ∀ (n i : Nat) (acc a : List StP), i + n ≤ ls.length → acc.Pairwise (fun a b => a.seg.toNat < b.seg.toNat) → (∀ s ∈ acc, s.seg.toNat < i ∧ StOk ls s) → stsC B ls q n i acc = .ok a → a.Pairwise (fun a b => a.seg.toNat < b.seg.toNat) ∧ ∀ s ∈ a, StOk ls s := by
 intro n
 induction n with
 | zero => intro i acc a _ hP hA h; injection h with h; subst h; exact ⟨hP, fun s hs => (hA s hs).2⟩
 | succ n ih =>
  intro i acc a hi hP hA h
  unfold stsC at h
  split at h
  ·split at h
   ·exact ih (i + 1) acc a (by omega) hP (fun s hs => ⟨Nat.lt_succ_of_lt (hA s hs).1, (hA s hs).2⟩) h
   ·cases hs : startC B ls i (q + WN B (q + 4 + 4 * i) 4) with
    | bad e => rw [hs] at h; cases h
    | ok s =>
     rw [hs] at h
     obtain ⟨e1, e2⟩ := startC_ok (by omega) hs
     refine ih (i + 1) (acc ++ [s]) a (by omega) ?_ ?_ h
     ·refine List.pairwise_append.2 ⟨hP, List.pairwise_singleton _ _, fun x hx y hy => ?_⟩
      rw [List.mem_singleton] at hy
      subst hy
      have := (hA x hx).1
      omega
     ·intro x hx
      rcases List.mem_append.1 hx with hx | hx
      ·exact ⟨Nat.lt_succ_of_lt (hA x hx).1, (hA x hx).2⟩
      ·rw [List.mem_singleton] at hx
       subst hx
       exact ⟨by omega, e2⟩
  ·cases h
theorem startsC_up {B : List UInt8} {ls : List Seg} {q : Nat} {a : List StP} (h : startsC B ls q = .ok a) : a.Pairwise (fun a b => a.seg.toNat < b.seg.toNat) ∧ ∀ s ∈ a, StOk ls s := by
 unfold startsC at h
 split at h
 ·split at h
  ·rename_i h2
   exact stsC_up _ 0 [] a (by omega) List.Pairwise.nil (fun s hs => by cases hs) h
  ·cases h
 ·cases h
theorem readC_up {B : List UInt8} {ls : List Seg} {d : Nat} {c : List StP × List Imp} (h : readC B ls d = .ok c) : c.1.Pairwise (fun a b => a.seg.toNat < b.seg.toNat) ∧ ∀ s ∈ c.1, StOk ls s := by
 unfold readC at h
 split at h
 case isFalse => cases h
 split at h
 case isFalse => cases h
 split at h
 case isFalse => cases h
 split at h
 case isFalse => cases h
 cases hs : startsC B ls (WN B 4 4) with
 | bad e => rw [hs] at h; cases h
 | ok s =>
  rw [hs] at h
  change (ChR.then (impC B d (WN B 20 4 : Nat) (WN B 12 4) (WN B 16 4) (WN B 8 4) []) fun l => .ok (s, l)) = _ at h
  generalize impC B d (WN B 20 4 : Nat) (WN B 12 4) (WN B 16 4) (WN B 8 4) [] = r at h
  cases r with
  | bad e => cases h
  | ok l =>
   injection h with h
   subst h
   exact startsC_up hs
theorem fixupsC_asc {l : List UInt8} {ls : List Seg} {d off size : Nat} {a : List Fx} (hu : SegsUp ls) (h0 : ∀ k, k < ls.length → 0 ≤ (ls.getD k .zero).size) (q : Int) (hq : ∀ k, k < ls.length → q ≤ (ls.getD k .zero).addr) (h : fixupsC l ls d off size = .ok a) : ∃ r, Asc a r := by
 unfold fixupsC at h
 split at h
 ·injection h with h
  subst h
  exact ⟨0, Asc.nil 0⟩
 ·cases hr : readC (partS l off size) ls d with
  | bad e => rw [hr] at h; cases h
  | ok c =>
   rw [hr] at h
   obtain ⟨h1, h2⟩ := readC_up hr
   refine fixsC_asc l ls c.2 hu c.1 [] a q ⟨h1, fun s hs => ⟨(h2 s hs).1, ?_, h0 _ (h2 s hs).1⟩⟩ (Asc.nil q) (fun s hs => hq _ (h2 s hs).1) h
   have := (h2 s hs).2.1
   omega
def impBB (x : Imp) (name : Nat) (fmt : Int) : List UInt8 := if fmt = 3 then leB (u64N x.ord % 65536 + (if x.weak then 65536 else 0) + name * 4294967296) 8 ++ leB (u64N x.add) 8 else impB x name fmt
theorem impBB_len (x : Imp) (n : Nat) (f : Int) : (impBB x n f).length ≤ 16 := by
 unfold impBB impB
 split
 ·simp [leB_len]
 ·split <;> simp [leB_len]
structure Nm where
 out : List UInt8
 ns : List UInt8
 pl : ByteArray → Option Nat
def Nm.zero : Nm := ⟨[], [0], fun _ => none⟩
def Nm.at (s : Nm) (x : Imp) : Nat := (s.pl x.sym).getD s.ns.length
def Nm.step (fmt : Int) (s : Nm) (x : Imp) : Nm := ⟨s.out ++ impBB x (s.at x) fmt, if s.pl x.sym = none then s.ns ++ (x.sym.data.toList ++ [0]) else s.ns, if s.pl x.sym = none then (fun q => if q = x.sym then some s.ns.length else s.pl q) else s.pl⟩
structure Nm.Fit (s : Nm) (k : Nat) : Prop where
 out : s.out.length ≤ 16 * k
 ns : s.ns.length ≤ 1 + 301 * k
 pl : ∀ q n, s.pl q = some n → n ≤ s.ns.length
theorem Nm.Fit.step {s : Nm} {k : Nat} (h : s.Fit k) (f : Int) (x : Imp) (hx : x.sym.size ≤ 300) : (s.step f x).Fit (k + 1) := by
 have h1 := h.out
 have h2 := h.ns
 have h3 := impBB_len x (s.at x) f
 have hs : x.sym.data.toList.length = x.sym.size := str_len _
 constructor
 ·simp only [Nm.step, List.length_append]
  omega
 ·simp only [Nm.step]
  split
  ·simp only [List.length_append, List.length_singleton, hs]; omega
  ·omega
 ·intro q n
  simp only [Nm.step]
  split
  ·intro e
   replace e : (if q = x.sym then some s.ns.length else s.pl q) = some n := e
   split at e
   ·cases e; simp only [List.length_append]; omega
   ·have := h.pl _ _ e; simp only [List.length_append]; omega
  ·exact h.pl q n
theorem map_ne_buf {w : World} {base b : Nat} {v : Value} {l : List UInt8} {f : ByteArray → Option Value} (h : BB w base v l) (hm : Map.Is Map.strK w b f) : b ∉ v.ownBlock.toList := by
 intro hb
 obtain ⟨es, c, hh, _⟩ := hm
 rcases h.2 with ⟨rfl, _⟩ | ⟨g, cap, cur, rfl, _, hg, _⟩
 ·cases hb
 ·simp [Value.ownBlock] at hb
  subst hb
  rw [hh] at hg
  cases hg
structure Duo (w : World) (base : Nat) (v6 : Value) (l6 : List UInt8) (v7 : Value) (l7 : List UInt8) : Prop where
 one : BB w base v6 l6
 two : BB w base v7 l7
 ne : ∀ b, v6.ownBlock = some b → v7.ownBlock ≠ some b
section
variable {w w' : World} {base : Nat} {v6 v7 : Value} {l6 l7 : List UInt8}
theorem Duo.pure (h : Duo w base v6 l6 v7 l7) (k : Chg [] w w') : Duo w' base v6 l6 v7 l7 := ⟨h.one.pure k, h.two.pure k, h.ne⟩
theorem Duo.map (h : Duo w base v6 l6 v7 l7) {q : Nat} {f : ByteArray → Option Value} (hm : Map.Is Map.strK w q f) (k : Chg [q] w w') : Duo w' base v6 l6 v7 l7 :=
 ⟨h.one.frame k (fun b hb hq => map_ne_buf h.one hm (by simp at hq; subst hq; simp [hb])), h.two.frame k (fun b hb hq => map_ne_buf h.two hm (by simp at hq; subst hq; simp [hb])), h.ne⟩
theorem Duo.grow (h : Duo w base v6 l6 v7 l7) {v : Value} {l : List UInt8} (hv : BB w' base v l) (hg : w.grownBy w' v7.ownBlock) (hl : v.ownBlock = v7.ownBlock ∨ v.ownBlock = some w.heap.size) : Duo w' base v6 l6 v l :=
 ⟨h.one.frame (Lay.chg_grown hg) (fun b hb hm => h.ne b hb (by simpa using hm)), hv, fun b hb hb2 => by
  rcases hl with e | e
  ·exact h.ne b hb (e.symm.trans hb2)
  ·have := (h.one.lt b hb).2
   rw [e] at hb2
   cases hb2
   omega⟩
theorem Duo.chg (h : Duo w base v6 l6 v7 l7) (hg : w.grownBy w' v7.ownBlock) {w0 : World} (hb : base = w0.heap.size) (k : Chg [] w0 w) : Chg [] w0 w' :=
 k.trans (Lay.chg_grown hg) (fun i hi hw => by have := (h.two.lt i (by simpa using hi)).1; omega)
end
section
variable {κ : Type} {K : Map.Key κ} {P : Program} {T : TypeId} {ops : Array Oper} {rest : List Oper} {a : Act} {Q : Exit → Act → World → Prop} {w : World}
theorem getV {z : Value} (hT : Map.Ty K P T z) {m k : Operand} {d : Tmp} {ty : TypeId} {pos : String} {after : Array Edge} {b : Nat} {f : κ → Option Value} (hb : Map.Is K w b f) (i : κ) (v : Value) (hf : (f i).getD z = v) (hm : a.eval m = .map (some b)) (hk : a.eval k = K.of i)
  (h : wpList P ops Q rest (a.put (some d) v) w) : wpList P ops Q (⟨some d, .lookup T m k false, ty, pos, after, none⟩ :: rest) a w := by
 refine Map.getL hT hb i hm hk ?_
 rw [hf]
 exact h
theorem wpList_want {o : Oper} (hw : Region.wanted o (yielded ops a.tmps) = true) (h : ∀ K : Act → World → Prop, (∀ a w, wpList P ops Q rest a w → K a w) → o.wp P a w K Q) : wpList P ops Q (o :: rest) a w := wpList_step fun K hK => by rw [if_pos hw]; exact h K hK
theorem ldG {α : Type} {L : Lay α} (hT : Lay.Ty L P T) {d : Tmp} {s : Operand} {ty : TypeId} {pos : String} {after : Array Edge} {g : Nat × Bool} {b off : Nat} (x : α) (hx : L.In w b off x) (hw : Region.wanted ⟨some d, .load T s, ty, pos, after, some g⟩ (yielded ops a.tmps) = true) (hs : a.eval s = .pointer (some ⟨b, off, none⟩))
  (h : wpList P ops Q rest (a.put (some d) (.agg (L.f x).toArray)) w) : wpList P ops Q (⟨some d, .load T s, ty, pos, after, some g⟩ :: rest) a w := by
 refine wpList_want hw fun K hK => ?_
 unfold Oper.wp execOp
 simp only [Instr.loadAt, Instr.sureAddr, Sem.run_bind, Sem.run_pure, hs, Result.andThen_ok, Lay.run_load_rec hT hx]
 exact hK _ _ h
theorem bs1 {α : Type} {L : Lay α} {E : TypeId} {d : Tmp} {s : Operand} {ty : TypeId} {pos : String} {after : Array Edge} {g : Option (Nat × Bool)} (x : α)
  (hr : ∀ w, (Instr.buildSlice T 1 #[(0, L.val x)]).run P w = .ok (.slice (some ⟨w.heap.size, 0, none⟩) 1 1) (w.alloc (.cells (L.f x).toArray E)))
  (hw : Region.wanted ⟨some d, .buildSlice T 1 #[(0, s)], ty, pos, after, g⟩ (yielded ops a.tmps) = true) (hs : a.eval s = L.val x)
  (h : ∀ W v, Chg [] w W → L.Rd W v [x] → wpList P ops Q rest (a.put (some d) v) W) : wpList P ops Q (⟨some d, .buildSlice T 1 #[(0, s)], ty, pos, after, g⟩ :: rest) a w := by
 refine wpList_want hw fun K hK => ?_
 have hrw := hr w
 unfold Oper.wp execOp
 simp only [List.map_toArray, List.map_cons, List.map_nil, hs, Sem.run_bind, hrw, Result.andThen_ok, Sem.run_pure]
 exact hK _ _ (h _ _ ((Chg.refl _ _).alloc _) (Lay.Rd.of_heap (heap_alloc_eq _ _) (Lay.vals_single x).symm rfl (show 1 ≤ maxLen by decide)))
end
theorem imp_built (x : Imp) (w : World) : (Instr.buildSlice 48 1 #[(0, impL.val x)]).run Tryz.prog w = .ok (.slice (some ⟨w.heap.size, 0, none⟩) 1 1) (w.alloc (.cells (impL.f x).toArray 59)) := by
 show (Instr.buildSlice 48 1 #[(0, .agg #[.int .i64 x.ord, .bool x.weak, .string x.sym, .int .i64 x.add])]).run Tryz.prog w = .ok (.slice (some ⟨w.heap.size, 0, none⟩) 1 1) (w.alloc (.cells #[.int .i64 x.ord, .bool x.weak, .string x.sym, .int .i64 x.add] 59))
 go_simp
def i64L : Lay Int := ⟨1, fun b => [.int .i64 b], 0, fun _ => rfl, by decide, fun x u hu => by
 simp only [List.mem_singleton] at hu
 subst hu
 rfl⟩
def leastF (c : Int) : Int :=
 if c = 25 then 72 else if c = 34 ∨ c = 2147483682 then 48 else if c = 2 ∨ c = 12 ∨ c = 13 ∨ c = 2147483672 ∨ c = 2147483679 ∨ c = 2147483683 ∨ c = 2147483688 then 24 else if c = 2147483699 ∨ c = 2147483700 then 16 else 0
theorem Wrong_bad (b : Nat) (al : Value) (at_ : Int) (bg : Value) (w : World) (h : w.heap[b]? = some (.cells #[al, .int .i64 at_, bg, .bool true] 159 (0, 0))) :
  Calls Tryz.prog 93 #[.pointer (some ⟨b, 0, none⟩)] w fun e w' =>
   e = .returned (.iface 187 (.pointer (some ⟨w.heap.size, 0, none⟩))) ∧ w.alloc (.cells #[.int .i64 at_, .int .i64 3] 189) = w' := by
 have h1 := cell_of_heap h 1
 have h3 := cell_of_heap h 3
 clear h
 simp at h1 h3
 go_enter Tryz.func93, Tryz.ntmps93
 go_wp2
 go_ret
 exact ⟨rfl, rfl⟩
theorem Wrong_ok (b : Nat) (al at_ bg : Value) (w : World) (h : w.heap[b]? = some (.cells #[al, at_, bg, .bool false] 159 (0, 0))) :
  Calls Tryz.prog 93 #[.pointer (some ⟨b, 0, none⟩)] w fun e w' => e = .returned .nilIface ∧ w = w' := by
 have h3 := cell_of_heap h 3
 clear h
 simp at h3
 go_enter Tryz.func93, Tryz.ntmps93
 go_wp2
 go_ret
 exact ⟨rfl, rfl⟩
theorem Code_nil (w : World) : Calls Tryz.prog 92 #[.nilIface] w fun e w' => e = .returned (.int .i64 0) ∧ Chg [] w w' := by
 go_enter Tryz.func92, Tryz.ntmps92
 go_wp2
 go_ret
 exact ⟨rfl, (Chg.refl _ _).alloc _⟩
theorem Code_wrong (b : Nat) (at_ : Value) (n : Int) (w : World) (hg : Env w) (hb : w.heap[b]? = some (.cells #[at_, .int .i64 n] 189 (0, 0))) :
  Calls Tryz.prog 92 #[.iface 187 (.pointer (some ⟨b, 0, none⟩))] w fun e w' => e = .returned (.int .i64 n) ∧ Chg [] w w' := by
 have HG := hY (hg.frame ((Chg.refl [] w).alloc (.cells #[.int .i64 0] 36)) (by simp))
 have HB := hY (((Chg.refl [] w).alloc (.cells #[.int .i64 0] 36)).heap hb (by simp))
 have HT := hY (heap_alloc_eq w (.cells #[.int .i64 0] 36))
 clear hg hb
 go_enter Tryz.func92, Tryz.ntmps92
 go_wp2_with fail
 refine (as_wrong b w.heap.size at_ n (.int .i64 0) _ HG.out HT.out HB.out).mono ?_
 rintro e w1 ⟨rfl, ht, hc⟩
 have ht0 := cell_of_heap ht 0
 simp only [gA, gZ] at ht0
 have HC := hY hc
 clear hc ht
 go_wp2
 go_ret
 exact ⟨rfl, ((Chg.refl [] w).alloc _).new HC.out (Nat.le_refl _)⟩
theorem Err_ok (b : Nat) (s : CS) (w : World) (h : CurB w b s) (hf : s.failed = false) :
  Calls Tryz.prog 52 #[.pointer (some ⟨b, 0, none⟩)] w fun e w' => e = .returned (.int .i64 0) ∧ Chg [] w w' := by
 obtain ⟨a, n, cap, hb, _⟩ := h
 rw [hf] at hb
 have HB := hY hb
 clear hb hf
 go_enter Tryz.func52, Tryz.ntmps52
 go_wp2_with fail
 refine (Wrong_ok b _ _ _ w HB.out).mono ?_
 rintro e w1 ⟨rfl, rfl⟩
 go_wp2_with fail
 refine (Code_nil w).mono ?_
 rintro e w1 ⟨rfl, hc⟩
 have HC := hY hc
 clear hc
 go_wp2
 go_ret
 exact ⟨rfl, HC.out⟩
theorem Err_bad (b : Nat) (s : CS) (w : World) (hg : Env w) (h : CurB w b s) (hf : s.failed = true) :
  Calls Tryz.prog 52 #[.pointer (some ⟨b, 0, none⟩)] w fun e w' => e = .returned (.int .i64 3) ∧ Chg [] w w' := by
 obtain ⟨a, n, cap, hb, _⟩ := h
 rw [hf] at hb
 have HB := hY hb
 have HG := hY hg
 clear hb hf hg
 go_enter Tryz.func52, Tryz.ntmps52
 go_wp2_with fail
 refine (Wrong_bad b _ _ _ w HB.out).mono ?_
 rintro e w1 ⟨rfl, rfl⟩
 go_wp2_with fail
 refine (Code_wrong _ _ 3 _ (HG.out.frame ((Chg.refl [] w).alloc _) (by simp)) (heap_alloc_eq w _)).mono ?_
 rintro e w1 ⟨rfl, hc⟩
 have HC := hY hc
 clear hc
 go_wp2
 go_ret
 exact ⟨rfl, ((Chg.refl [] w).alloc _).then HC.out⟩
theorem Clone_nil (n cap : Nat) (w : World) : Calls Tryz.prog 82 #[.slice none n cap] w fun e w' => e = .returned (.slice none 0 0) ∧ w = w' := by
 have hsn := @Lib.run_eql_slice_nil Tryz.prog
 go_enter Tryz.func82, Tryz.ntmps82
 go_wp2
 go_ret
 exact ⟨rfl, rfl⟩
theorem Clone_some (ad : Addr) (n cap : Nat) (xs : List Value) (w : World) (hl : n = xs.length) (hn : n ≤ 140737488355328) (h1 : ∀ u ∈ xs, u.oneCell' = true)
  (hc : ∀ j u, xs[j]? = some u → w.cell? (ad.add j) = some u) :
  Calls Tryz.prog 82 #[.slice (some ad) n cap] w fun e w' => ∃ v, e = .returned v ∧ w'.ownsRow w.heap.size 5 1 v n xs ∧ Chg [] w w' := by
 have hsn := @Lib.run_eql_slice_nil Tryz.prog
 obtain ⟨i0, hi, hz0, hz1, hz2⟩ := info_parts Tryz.infoU8
 have hcx : ∀ j u, xs[j]? = some u → (w.alloc (.cells #[] 5)).cell? (ad.add j) = some u := by
  intro j u hu
  have := hc j u hu
  rw [World.cell?_alloc_lt _ _ _ (World.block_lt_of_cell? _ _ this)]
  exact this
 have HC := hY hcx
 have HL := hY hl
 have H1 := hY h1
 clear hcx hl hc h1
 go_enter Tryz.func82, Tryz.ntmps82
 go_wp2_with (at_builtin; refine wpList_append_own _ rfl _ _ 22 rfl w.heap.size 5 i0 (.int .u8 0) 1 1 Tryz.underlying22 hi hz0 hz1 hz2 rfl (by decide) _ 0 [] rfl (World.ownsRow_made w #[] 0 (Nat.le_refl _) (by unfold maxLen; omega) rfl) ad n cap xs rfl ?c1 ?c2 ?c3 ?c4 ?c5 ?c6 ?_)
 case c1 => rw [HL.out, Nat.mul_one]
 case c2 => exact HC.out
 case c3 => exact H1.out
 case c4 => unfold maxLen; omega
 case c5 => omega
 case c6 => simp
 intro v' w1 hown hgrow _
 have HO := hY hown
 have HG := hY hgrow
 clear hown hgrow
 go_wp2
 go_ret
 refine ⟨_, rfl, ?_, ?_⟩
 ·have := HO.out
  simpa using this
 ·exact ((Chg.refl [] w).alloc _).grown HG.out (by intro k hk; simp [Value.ownBlock] at hk; exact .inr (by omega))
theorem New_cur (v : Value) (l : List UInt8) (big : Bool) (w : World) (hv : Rd w v (bytesV l)) (hl : l.length ≤ 140737488355328) :
  Calls Tryz.prog 41 #[v, .bool big] w fun e w' => ∃ b, e = .returned (.pointer (some ⟨b, 0, none⟩)) ∧ w.heap.size ≤ b ∧ CurB w' b ⟨l, 0, big, false⟩ ∧ Chg [] w w' := by
 obtain ⟨a, n, cap, rfl, hn, hnc, hcm, hx⟩ := hv
 rw [bytesV_length] at hn
 subst hn
 cases a with
 | none =>
  have hnil : l = [] := by
   cases l with
   | nil => rfl
   | cons x r => obtain ⟨b, off, h, _⟩ := hx (by simp [bytesV]); cases h
  subst hnil
  clear hx hnc hcm hl
  go_enter Tryz.func41, Tryz.ntmps41
  go_wp2_with fail
  refine (Clone_nil _ _ w).mono ?_
  rintro e w1 ⟨rfl, rfl⟩
  go_wp2
  go_ret
  refine ⟨_, rfl, Nat.le_refl _, ⟨none, 0, 0, heap_alloc_eq w _, rfl, Nat.le_refl _, Nat.zero_le _, by omega, Nat.le_refl _, fun h => absurd h (by omega)⟩, (Chg.refl _ _).alloc _⟩
 | some ad =>
  have hc : ∀ j u, (bytesV l)[j]? = some u → w.cell? (ad.add j) = some u := by
   intro j u hu
   obtain ⟨hj, _⟩ := List.getElem?_eq_some_iff.1 hu
   obtain ⟨b, off, h, hcell⟩ := hx (by intro e; rw [e] at hj; simp at hj)
   cases h
   rw [Addr_add, hcell j hj, hu]
  have H1 : Hid (∀ u ∈ bytesV l, u.oneCell' = true) := by
   intro u hu
   obtain ⟨x, _, rfl⟩ := List.mem_map.1 hu
   rfl
  have HC := hY hc
  have HL := hY hl
  clear hx hc hnc hcm hl
  go_enter Tryz.func41, Tryz.ntmps41
  go_wp2_with fail
  refine (Clone_some ad _ cap (bytesV l) w (bytesV_length l).symm HL.out H1.out HC.out).mono ?_
  rintro e w1 ⟨v, rfl, hown, hchg⟩
  have HO := hY hown
  have HG := hY hchg
  have hsz := hchg.size
  obtain ⟨a', n', cap', rfl⟩ : ∃ a n c, v = Value.slice a n c := by
   rcases hown.2 with ⟨rfl, _⟩ | ⟨g, cap', cur, rfl, _⟩
   ·exact ⟨_, _, _, rfl⟩
   ·exact ⟨_, _, _, rfl⟩
  clear hown hchg
  go_wp2
  go_ret
  refine ⟨_, rfl, hsz, ?_, HG.out.alloc _⟩
  obtain ⟨hxl, hv⟩ := HO.out
  rw [Nat.mul_one] at hxl
  rcases hv with ⟨hv, h0⟩ | ⟨g, cap', cur, hv, hbg, hg, hnc, hcm, hcs, htake⟩
  ·cases hv
   refine ⟨none, 0, 0, heap_alloc_eq w1 _, h0.symm, Nat.le_refl _, Nat.zero_le _, by omega, Nat.le_refl _, fun h => absurd h (by omega)⟩
  ·cases hv
   have hgl := lt_of_heap hg
   refine ⟨_, _, _, heap_alloc_eq w1 _, rfl, hnc, hcm, HL.out, Nat.zero_le _, fun _ => ⟨g, 0, cur, rfl, by omega, by rw [heap_alloc_lt hgl]; exact hg, fun j hj => ?_⟩⟩
   rw [World.cell?_alloc_lt _ _ _ hgl, Nat.zero_add, cell_of_heap hg]
   have e1 : (cur.toList.take (l.length * 1))[j]? = (bytesV l)[j]? := by rw [htake]
   rw [List.getElem?_take, if_pos (by omega), bytesV_get l j hj] at e1
   simpa using e1
def n4 (l : List UInt8) (p : Nat) : Nat := leNum ((l.drop p).take 4)
theorem n4_lt (l : List UInt8) (p : Nat) : n4 l p < 4294967296 := by
 have h := leNum_lt ((l.drop p).take 4)
 have h2 : ((l.drop p).take 4).length ≤ 4 := by rw [List.length_take]; omega
 have h3 : 256 ^ ((l.drop p).take 4).length ≤ 256 ^ 4 := Nat.pow_le_pow_right (by decide) h2
 unfold n4
 omega
end Go.Proofs.YtiljokmkiolpgaaGreatDoor
namespace Go.Proofs
open Go.Shelf
def Tryz.lays187_ren : Go.Shelf.Ren := ⟨fun | 187 => 91 | 255 => 108 | n => n, fun | 37 => 22 | 5 => 5 | 3 => 3 | n => n, fun | n => n⟩
theorem Tryz.lays187 : Go.Proofs.Lays.n187 Tryz.prog Tryz.lays187_ren := {
 mixed := by kernel_rfl
 f187 := Tryz.func91.trans (congrArg some (by kernel_rfl))
 f255 := Tryz.func108.trans (congrArg some (by kernel_rfl))
 t3 := Tryz.underlying3
 a3 := Tryz.isAgg3
 z3 := Tryz.sizeOf3
 v3 := Tryz.zeroValue3
 t5 := Tryz.underlying5
 a5 := Tryz.isAgg5
 z5 := Tryz.sizeOf5
 v5 := Tryz.zeroValue5
 t37 := Tryz.underlying22
 a37 := Tryz.isAgg22
 z37 := Tryz.sizeOf22
 v37 := Tryz.zeroValue22 }
open Go.RowKit Go.Lib in
theorem Tryz.bytes_IndexByte_at (a : Addr) (n c : Nat) (xs : List Int) (cv : Int) (w : World) (hx : xs.length = n) (hc : ∀ i, i < n → w.cell? (a.add i) = some (.int .u8 (xs.getD i 0))) :
  Calls Tryz.prog 91 #[.slice (some a) n c, .int .u8 cv] w fun e w' => e = .returned (.int .i64 (Lib.indexByte (Lib.bytesOf xs) cv.toNat.toUInt8)) ∧ w' = w := Any.bytes_IndexByte_at Tryz.lays187 a n c xs cv w hx hc
end Go.Proofs
namespace Go.Proofs.YtiljokmkiolpgaaGreatDoor
open Go.RowKit
set_option maxRecDepth 100000
theorem foldl_push' (ns : List Int) (s : ByteArray) : ns.foldl (fun r n => r.push (UInt8.ofNat n.toNat)) s = ⟨s.data ++ (ns.map fun n => UInt8.ofNat n.toNat).toArray⟩ := by
 induction ns generalizing s with
 | nil => simp
 | cons n r ih => simp only [List.foldl_cons, ih]; simp [ByteArray.push]
theorem run_strB {w : World} {a : Option Addr} {n cap : Nat} {l : List UInt8} (h : byteL.Rd w (.slice a n cap) l) :
  (convert 22 9 (.slice a n cap)).run Tryz.prog w = .ok (.string ⟨l.toArray⟩) w := by
 rw [run_convert_bytes_string (P := Tryz.prog) w 22 9 5 a n cap Tryz.underlying22 Tryz.underlying5 Tryz.underlying9]
 cases a with
 | none =>
  obtain ⟨a', n', cap', he, hn, hnc, hcm, hx⟩ := h
  cases he
  have hnil : l = [] := by
   cases l with
   | nil => rfl
   | cons x r => obtain ⟨b, off, h, _⟩ := hx (by simp); cases h
  subst hnil
  subst hn
  rfl
 | some ad =>
  obtain ⟨hn, hc⟩ := Lay.Rd.cells h
  subst hn
  have hload : (loadCells ad l.length).run Tryz.prog w = .ok ((l.map fun x => (x.toNat : Int)).map (Value.int .u8)).toArray w := by
   have hxs : (l.map fun x => (x.toNat : Int)).map (Value.int .u8) = byteL.vals l := by rw [byte_vals]; simp [Function.comp_def]
   rw [hxs]
   have := run_loadCells_list (P := Tryz.prog) (w := w) ad (byteL.vals l) (fun j u hu => hc j u hu)
   rw [Lay.vals_len, show byteL.n = 1 from rfl, Nat.mul_one] at this
   exact this
  rw [run_bytesToString w ad l.length cap _ hload, foldl_push']
  have e : (l.map fun x => (x.toNat : Int)).map (fun n => UInt8.ofNat n.toNat) = l := by
   rw [List.map_map]
   conv => rhs; rw [← List.map_id l]
   refine List.map_congr_left fun x _ => ?_
   simp
  rw [e]
  simp
theorem Rd_sub {w : World} {b off n cap : Nat} {l : List UInt8} (h : byteL.Rd w (.slice (some ⟨b, off, none⟩) n cap) l) (k m c : Nat) (hk : k + m ≤ l.length) (hm : m ≤ c) (hc : c ≤ maxLen) : byteL.Rd w (.slice (some ⟨b, off + k, none⟩) m c) ((l.drop k).take m) := by
 obtain ⟨a', n', cap', he, hn, _, _, hx⟩ := h
 cases he
 have hl : ((l.drop k).take m).length = m := by rw [List.length_take, List.length_drop]; omega
 refine ⟨_, _, _, rfl, hl.symm, hm, hc, fun hne => ?_⟩
 have hne2 : l ≠ [] := by rintro rfl; simp at hne
 obtain ⟨b', off', e, hb, hcell⟩ := hx hne2
 cases e
 refine ⟨_, _, rfl, hb, fun j hj c hc => ?_⟩
 rw [hl] at hj
 have := hcell (k + j) (by omega) c hc
 have hg : ((l.drop k).take m).getD j byteL.d = l.getD (k + j) byteL.d := by
  simp [List.getD_eq_getElem?_getD, List.getElem?_drop, hj]
 rw [hg, ← this]
 congr 2
 show off + k + j * 1 + c = off + (k + j) * 1 + c
 omega
end Go.Proofs.YtiljokmkiolpgaaGreatDoor
