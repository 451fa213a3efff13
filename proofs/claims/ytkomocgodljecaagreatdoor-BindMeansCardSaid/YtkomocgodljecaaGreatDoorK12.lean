/- Lemmas, laid together: part 12 of 41. Conditions: none but each lemma's own. -/
import Derived.Test.YtkomocgodljecaaGreatDoorK11
import Derived.Test.YtkomocgodljecaaGreatDoorK1
import Derived.Test.YtkomocgodljecaaGreatDoorProg
import Derived.Test.YtkomocgodljecaaGreatDoorK4
/- image.Place and image.Writable. -/
namespace Go.Proofs.YtkomocgodljecaaGreatDoor
open Go.RowKit
set_option maxRecDepth 100000

/-- The address of a place, or why there is none. -/
def placeS (ls : List Seg) (k o : Int) : Int × Int :=
  if k < ls.length then
    if holeS (ls.getD k.toNat .zero) then (0, 8) else if (ls.getD k.toNat .zero).size ≤ o then (0, 4) else (IntKind.u64.wrap ((ls.getD k.toNat .zero).addr + o), 0)
  else (0, 8)
set_option maxHeartbeats 1000000 in
theorem Place_any (m : Img) (ls : List Seg) (k : Int) (hk : 0 ≤ k) (o : Int) (w : World) (rd : segL.Rd w m.segs.v ls) :
    Calls Tryz.prog 73 #[imgL.val m, .int .u64 k, .int .u64 o] w fun e w' => e = .returned (.tuple #[.int .u64 (placeS ls k o).1, .int .i64 (placeS ls k o).2]) ∧ Chg [] w w' := by
  obtain ⟨a, cap, hv, hc1, hc2⟩ := rd.shape
  have hwl : IntKind.u64.wrap (ls.length : Int) = (ls.length : Int) := by rw [IntKind.wrap_u64]; omega
  have rd' := rd
  rw [hv] at rd'
  unfold SlV.v at hv
  have RD := Lib.hid rd'
  have Hc2 := Lib.hid hc2
  clear rd' hc2
  clear rd hc1
  by_cases h1 : k < ls.length
  · obtain ⟨K, rfl⟩ : ∃ K : Nat, k = K := ⟨k.toNat, by omega⟩
    have hK : K < ls.length := by omega
    have d1 : decide (ls.length ≤ K) = false := by simp; omega
    obtain ⟨b, off, rfl, _, hcell⟩ := RD.out.at (by omega)
    have hI : segL.In w b (off + K * 7) (ls.getD K .zero) := hcell K hK
    have HH := Lib.hid (hole_any (ls.getD K .zero))
    have hp : placeS ls K o = if holeS (ls.getD K .zero) then (0, 8) else if (ls.getD K .zero).size ≤ o then (0, 4) else (IntKind.u64.wrap ((ls.getD K .zero).addr + o), 0) := by
      unfold placeS
      rw [if_pos h1, Int.toNat_natCast]
    generalize ls.getD K .zero = s at *
    clear hcell
    have HI := Lib.hid hI
    clear hI
    cases hh : holeS s with
    | true =>
      rw [hh] at HH hp
      rw [show placeS ls K o = (0, 8) by rw [hp]; rfl]
      clear hp hh
      go_enter Tryz.func73, Tryz.ntmps73
      go_wp2_with ((with_reducible refine Lay.bxL (L := imgL) 30 m ?_ ?_); exact rfl; intro W1 bm ebm cbm xbm; replace ebm := Lib.hid ebm; replace cbm := Lib.hid cbm; replace xbm := Lib.hid xbm; refine Hid.out ?_)
      refine Lib.hid ?_
      have x4 := Img.c_segs xbm.out
      rw [hv] at x4
      go_wp2_with ((with_reducible refine Lay.ldG2 Tryz.tSeg s ((HI.out.frame cbm.out)) ?_ ?_ ?_); exact rfl; exact rfl; refine Hid.out ?_)
      refine Lib.hid ?_
      go_wp2_with fail
      refine (HH.out _).mono ?_
      rintro e w' ⟨rfl, hc⟩
      have Hc := Lib.hid hc
      clear hc
      go_wp2
      go_ret2
      exact ⟨rfl, cbm.out.then Hc.out⟩
    | false =>
      rw [hh, if_neg (by simp)] at hp
      rw [hh] at HH
      by_cases h2 : s.size ≤ o
      · have d2 : decide (s.size ≤ o) = true := by simpa using h2
        rw [if_pos h2] at hp
        rw [hp]
        clear hp hh h2
        go_enter Tryz.func73, Tryz.ntmps73
        go_wp2_with ((with_reducible refine Lay.bxL (L := imgL) 30 m ?_ ?_); exact rfl; intro W1 bm ebm cbm xbm; replace ebm := Lib.hid ebm; replace cbm := Lib.hid cbm; replace xbm := Lib.hid xbm; refine Hid.out ?_)
        refine Lib.hid ?_
        have x4 := Img.c_segs xbm.out
        rw [hv] at x4
        go_wp2_with ((with_reducible refine Lay.ldG2 Tryz.tSeg s ((HI.out.frame cbm.out)) ?_ ?_ ?_); exact rfl; exact rfl; refine Hid.out ?_)
        refine Lib.hid ?_
        go_wp2_with fail
        refine (HH.out _).mono ?_
        rintro e W2 ⟨rfl, hc⟩
        have C2 := Lib.hid (cbm.out.then hc)
        have X2 := Lib.hid (xbm.out.frame hc)
        clear hc x4
        have x4 := Img.c_segs X2.out
        rw [hv] at x4
        go_wp2_with ((with_reducible refine Lay.ldL Tryz.tSeg s ((HI.out.frame C2.out)) ?_ ?_); exact rfl; refine Hid.out ?_)
        refine Lib.hid ?_
        go_wp2_with ((with_reducible refine Lay.alL Tryz.tSeg ?_); intro W3 bs ebs cbs xbs; replace ebs := Lib.hid ebs; replace cbs := Lib.hid cbs; replace xbs := Lib.hid xbs; refine Hid.out ?_)
        refine Lib.hid ?_
        go_wp2_with ((with_reducible refine Lay.stL Tryz.tSeg s (xbs.out) ?_ ?_ ?_); exact rfl; exact rfl; intro W4 cW4 xW4; replace cW4 := Lib.hid cW4; replace xW4 := Lib.hid xW4; refine Hid.out ?_)
        refine Lib.hid ?_
        have C4 : Hid (Chg [] w W4) := Lib.hid (C2.out.then (cbs.out.new cW4.out (by rw [ebs.out]; exact Nat.le_refl _)))
        have x2 := Seg.c_size xW4.out
        clear x4
        go_wp2
        go_ret2
        exact ⟨rfl, C4.out⟩
      · have d2 : decide (s.size ≤ o) = false := by simpa using h2
        rw [if_neg h2] at hp
        rw [hp]
        clear hp hh h2
        go_enter Tryz.func73, Tryz.ntmps73
        go_wp2_with ((with_reducible refine Lay.bxL (L := imgL) 30 m ?_ ?_); exact rfl; intro W1 bm ebm cbm xbm; replace ebm := Lib.hid ebm; replace cbm := Lib.hid cbm; replace xbm := Lib.hid xbm; refine Hid.out ?_)
        refine Lib.hid ?_
        have x4 := Img.c_segs xbm.out
        rw [hv] at x4
        go_wp2_with ((with_reducible refine Lay.ldG2 Tryz.tSeg s ((HI.out.frame cbm.out)) ?_ ?_ ?_); exact rfl; exact rfl; refine Hid.out ?_)
        refine Lib.hid ?_
        go_wp2_with fail
        refine (HH.out _).mono ?_
        rintro e W2 ⟨rfl, hc⟩
        have C2 := Lib.hid (cbm.out.then hc)
        have X2 := Lib.hid (xbm.out.frame hc)
        clear hc x4
        have x4 := Img.c_segs X2.out
        rw [hv] at x4
        go_wp2_with ((with_reducible refine Lay.ldL Tryz.tSeg s ((HI.out.frame C2.out)) ?_ ?_); exact rfl; refine Hid.out ?_)
        refine Lib.hid ?_
        go_wp2_with ((with_reducible refine Lay.alL Tryz.tSeg ?_); intro W3 bs ebs cbs xbs; replace ebs := Lib.hid ebs; replace cbs := Lib.hid cbs; replace xbs := Lib.hid xbs; refine Hid.out ?_)
        refine Lib.hid ?_
        go_wp2_with ((with_reducible refine Lay.stL Tryz.tSeg s (xbs.out) ?_ ?_ ?_); exact rfl; exact rfl; intro W4 cW4 xW4; replace cW4 := Lib.hid cW4; replace xW4 := Lib.hid xW4; refine Hid.out ?_)
        refine Lib.hid ?_
        have C4 : Hid (Chg [] w W4) := Lib.hid (C2.out.then (cbs.out.new cW4.out (by rw [ebs.out]; exact Nat.le_refl _)))
        have x2 := Seg.c_size xW4.out
        clear x4
        have x1 := Seg.c_addr xW4.out
        go_wp2
        go_ret2
        exact ⟨rfl, C4.out⟩
  · have d1 : decide ((ls.length : Int) ≤ k) = true := by simp; omega
    rw [show placeS ls k o = (0, 8) by unfold placeS; rw [if_neg h1]]
    go_enter Tryz.func73, Tryz.ntmps73
    go_wp2_with ((with_reducible refine Lay.bxL (L := imgL) 30 m ?_ ?_); exact rfl; intro W1 bm ebm cbm xbm; replace ebm := Lib.hid ebm; replace cbm := Lib.hid cbm; replace xbm := Lib.hid xbm; refine Hid.out ?_)
    refine Lib.hid ?_
    have x4 := Img.c_segs xbm.out
    rw [hv] at x4
    go_wp2
    go_ret2
    exact ⟨rfl, cbm.out⟩
end Go.Proofs.YtkomocgodljecaaGreatDoor
/- The cursor's small methods, each walked once. -/
namespace Go.Proofs.YtkomocgodljecaaGreatDoor
open Go.RowKit

theorem At_any (b : Nat) (al : Value) (at_ : Int) (bg fl : Value) (w : World) (h : w.heap[b]? = some (.cells #[al, .int .i64 at_, bg, fl] 94 (0, 0))) :
    Calls Tryz.prog 119 #[.pointer (some ⟨b, 0, none⟩)] w fun e w' => e = .returned (.int .i64 at_) ∧ w = w' := by
  have h1 := cell_of_heap h 1
  clear h
  simp at h1
  go_enter Tryz.func119, Tryz.ntmps119
  go_wp2
  go_ret
  exact ⟨rfl, rfl⟩
theorem Fail_any (b : Nat) (al at_ bg fl : Value) (w : World) (h : w.heap[b]? = some (.cells #[al, at_, bg, fl] 94 (0, 0))) :
    Calls Tryz.prog 76 #[.pointer (some ⟨b, 0, none⟩)] w fun e w' => e = .returned (.tuple #[]) ∧ w.setCell ⟨b, 3, none⟩ (.bool true) = w' := by
  have h3 := cell_of_heap h 3
  have f3 := frozen_of_heap h 3
  clear h
  simp at h3
  go_enter Tryz.func76, Tryz.ntmps76
  go_wp2
  go_end0
  exact ⟨rfl, rfl⟩
theorem Left_any (b : Nat) (a : Option Addr) (n cap : Nat) (at_ : Int) (bg fl : Value) (w : World) (h : w.heap[b]? = some (.cells #[.slice a n cap, .int .i64 at_, bg, fl] 94 (0, 0)))
   (h0 : 0 ≤ at_) (hn : n ≤ 140737488355328) (h2 : at_ ≤ n) :
    Calls Tryz.prog 31 #[.pointer (some ⟨b, 0, none⟩)] w fun e w' => e = .returned (.int .i64 (n - at_)) ∧ Dr w w' := by
  have hc0 := cell_of_heap h 0
  have hc1 := cell_of_heap h 1
  clear h
  simp at hc0 hc1
  go_enter Tryz.func31, Tryz.ntmps31
  go_wp2
  go_quiet (fail)
  go_wp2
  go_ret
  exact ⟨rfl, (Dr.refl _).drewN _⟩
theorem well_any (b : Nat) (al at_ bg : Value) (fl is : Bool) (w : World) (h : w.heap[b]? = some (.cells #[al, at_, bg, .bool fl] 94 (0, 0))) :
    Calls Tryz.prog 61 #[.pointer (some ⟨b, 0, none⟩), .bool is] w fun e w' => e = .returned (.bool (is && !fl)) ∧ (if is then w else w.setCell ⟨b, 3, none⟩ (.bool true)) = w' := by
  have h3 := cell_of_heap h 3
  simp at h3
  go_enter Tryz.func61, Tryz.ntmps61
  cases is
  · go_wp2_with fail
    refine (Fail_any b al at_ bg (.bool fl) w h).mono ?_
    rintro e w' ⟨rfl, rfl⟩
    have h3' : (w.setCell ⟨b, 3, none⟩ (.bool true)).cell? ⟨b, 3, none⟩ = some (.bool true) := World.cell?_setCell_same _ _ _ h3
    clear h
    go_wp2
    go_ret
    exact ⟨rfl, rfl⟩
  · clear h
    go_wp2
    go_ret
    exact ⟨by simp, rfl⟩
/-- take, where so many stand there. -/
theorem take_some (b : Nat) (a : Option Addr) (n cap : Nat) (at_ m : Int) (bg : Value) (w : World) (h : w.heap[b]? = some (.cells #[.slice a n cap, .int .i64 at_, bg, .bool false] 94 (0, 0)))
   (h0 : 0 ≤ at_) (hn : n ≤ 140737488355328) (h2 : at_ ≤ n) (hm : 0 ≤ m) (hm2 : m ≤ n - at_) (hc : n ≤ cap) (hc2 : cap ≤ 9223372036854775807) (ha : 0 < m → ∃ d off, a = some ⟨d, off, none⟩) :
    Calls Tryz.prog 62 #[.pointer (some ⟨b, 0, none⟩), .int .i64 m] w fun e w' =>
      e = .returned (.slice (if m = 0 then a else a.map fun x => ⟨x.block, x.off + at_.toNat, none⟩) m.toNat m.toNat) ∧ Dr (w.setCell ⟨b, 1, none⟩ (.int .i64 (at_ + m))) w' := by
  have hc0 := cell_of_heap h 0
  have hc1 := cell_of_heap h 1
  have f1 := frozen_of_heap h 1
  simp at hc0 hc1
  by_cases hm0 : m = 0
  · subst hm0
    go_enter Tryz.func62, Tryz.ntmps62
    go_wp2_with fail
    refine (Left_any b a n cap at_ bg _ w h h0 hn h2).mono ?_
    rintro e w' ⟨rfl, hd⟩; obtain ⟨q, rfl⟩ := hd.ex; clear hd
    go_wp2_with fail
    refine (well_any b _ (.int .i64 at_) bg false true (w.drewN q) h).mono ?_
    rintro e w' ⟨rfl, rfl⟩
    cases a with
    | none =>
      go_wp2
      go_quiet (fail)
      go_wp2
      go_ret
      exact ⟨rfl, (((Dr.refl _).drewN _).set _ _).drewN _⟩
    | some a =>
      go_wp2
      go_quiet (fail)
      go_wp2
      go_ret
      exact ⟨rfl, (((Dr.refl _).drewN _).set _ _).drewN _⟩
  · obtain ⟨d, off, rfl⟩ := ha (by omega)
    have hne : ¬ (at_ + m).toNat = at_.toNat := by omega
    go_enter Tryz.func62, Tryz.ntmps62
    go_wp2_with fail
    refine (Left_any b (some ⟨d, off, none⟩) n cap at_ bg _ w h h0 hn h2).mono ?_
    rintro e w' ⟨rfl, hd⟩; obtain ⟨q, rfl⟩ := hd.ex; clear hd
    go_wp2_with fail
    refine (well_any b _ (.int .i64 at_) bg false true (w.drewN q) h).mono ?_
    rintro e w' ⟨rfl, rfl⟩
    go_wp2
    go_quiet (fail)
    go_wp2
    go_ret
    have e1 : (at_ + m).toNat - at_.toNat = m.toNat := by omega
    exact ⟨by simp [e1], (((Dr.refl _).drewN _).set _ _).drewN _⟩
end Go.Proofs.YtkomocgodljecaaGreatDoor
/- Plain lemmas: bytes as a number, either way round. No program in sight. -/
namespace Go.Proofs.YtkomocgodljecaaGreatDoor
open Go.RowKit

def leNum : List UInt8 → Nat
  | [] => 0
  | x :: r => x.toNat + 256 * leNum r
def beNum (l : List UInt8) : Nat := l.foldl (fun n x => n * 256 + x.toNat) 0
theorem leNum_snoc (l : List UInt8) (x : UInt8) : leNum (l ++ [x]) = leNum l + x.toNat * 256 ^ l.length := by
  induction l with
  | nil => simp [leNum]
  | cons y r ih => simp only [List.cons_append, leNum, ih, List.length_cons, Nat.pow_succ, Nat.mul_add]; rw [Nat.add_assoc, ← Nat.mul_assoc, ← Nat.mul_assoc, Nat.mul_comm 256 x.toNat, Nat.mul_assoc x.toNat, Nat.mul_comm 256 (256 ^ r.length)]; simp [Nat.mul_assoc]
theorem leNum_lt (l : List UInt8) : leNum l < 256 ^ l.length := by
  induction l with
  | nil => simp [leNum]
  | cons y r ih => have := y.toNat_lt; simp only [leNum, List.length_cons, Nat.pow_succ]; omega
theorem beNum_snoc (l : List UInt8) (x : UInt8) : beNum (l ++ [x]) = beNum l * 256 + x.toNat := by simp [beNum]
theorem beNum_lt (l : List UInt8) : beNum l < 256 ^ l.length := by
  have h : ∀ (n : Nat) (m : List UInt8), m.length = n → beNum m < 256 ^ n := by
    intro n
    induction n with
    | zero => intro m hm; rw [List.length_eq_zero_iff.1 hm]; simp [beNum]
    | succ n ih =>
      intro m hm
      obtain ⟨r, x, rfl⟩ : ∃ r x, m = r ++ [x] := ⟨m.dropLast, m.getLast (by intro e; subst e; simp at hm), (List.dropLast_concat_getLast _).symm⟩
      have := ih r (by simpa using hm)
      have := x.toNat_lt
      rw [beNum_snoc, Nat.pow_succ]; omega
  exact h _ l rfl
/-- A number's bytes, whichever way round. -/
def numOf (big : Bool) (l : List UInt8) : Nat := if big then beNum l else leNum l
theorem pow_le8 (k : Nat) (h : k ≤ 8) : 256 ^ k ≤ 18446744073709551616 := by
  have : (256 : Nat) ^ k ≤ 256 ^ 8 := Nat.pow_le_pow_right (by omega) h
  simpa using this
theorem take_snoc8 (l : List UInt8) (k : Nat) (h : k < l.length) : l.take (k + 1) = l.take k ++ [l[k]?.getD 0] := by
  rw [List.take_add_one, List.getElem?_eq_getElem h]; rfl
theorem le_step (l : List UInt8) (k : Nat) (h : k < l.length) (h8 : l.length ≤ 8) :
    bits .or .u64 (leNum (l.take k) : Int) (IntKind.u64.wrap (IntKind.u64.wrap ((l[k]?.getD 0).toNat : Int) * 2 ^ (8 * k))) = (leNum (l.take (k + 1)) : Int) := by
  have hb := (l[k]?.getD 0).toNat_lt
  have hk : (l.take k).length = k := by simp; omega
  have hlt := leNum_lt (l.take k)
  rw [hk] at hlt
  have h256 : (256 : Nat) ^ k = 2 ^ (8 * k) := by rw [Nat.pow_mul]
  have hp : 256 ^ (k + 1) ≤ 18446744073709551616 := pow_le8 (k + 1) (by omega)
  rw [Nat.pow_succ] at hp
  have hx : (l[k]?.getD 0).toNat * 2 ^ (8 * k) < 18446744073709551616 := by
    rw [← h256]
    have : (l[k]?.getD 0).toNat * 256 ^ k < 256 * 256 ^ k := (Nat.mul_lt_mul_right (Nat.pow_pos (by omega))).2 hb
    omega
  have e1 : IntKind.u64.wrap ((l[k]?.getD 0).toNat : Int) = ((l[k]?.getD 0).toNat : Int) := by rw [IntKind.wrap_u64]; omega
  have e2 : ((l[k]?.getD 0).toNat : Int) * 2 ^ (8 * k) = (((l[k]?.getD 0).toNat * 2 ^ (8 * k) : Nat) : Int) := by push_cast; rfl
  rw [e1, e2, IntKind.wrap_u64, Int.emod_eq_of_lt (by omega) (by omega), u64_or_nat _ _ (by omega) hx, Nat.or_comm, nat_join (8 * k) _ _ (Nat.mul_mod_left _ _) (by omega), take_snoc8 l k h, leNum_snoc, hk, h256]
  omega
theorem be_step (l : List UInt8) (k : Nat) (h : k < l.length) (h8 : l.length ≤ 8) :
    bits .or .u64 (IntKind.u64.wrap ((beNum (l.take k) : Int) * 256)) (IntKind.u64.wrap ((l[k]?.getD 0).toNat : Int)) = (beNum (l.take (k + 1)) : Int) := by
  have hb := (l[k]?.getD 0).toNat_lt
  have hk : (l.take k).length = k := by simp; omega
  have hlt := beNum_lt (l.take k)
  rw [hk] at hlt
  have hp : 256 ^ (k + 1) ≤ 18446744073709551616 := pow_le8 (k + 1) (by omega)
  rw [Nat.pow_succ] at hp
  have e1 : IntKind.u64.wrap ((l[k]?.getD 0).toNat : Int) = ((l[k]?.getD 0).toNat : Int) := by rw [IntKind.wrap_u64]; omega
  have e2 : (beNum (l.take k) : Int) * 256 = ((beNum (l.take k) * 256 : Nat) : Int) := (Int.natCast_mul _ 256).symm
  rw [e1, e2, IntKind.wrap_u64, Int.emod_eq_of_lt (by omega) (by omega), u64_or_nat _ _ (by omega) (by omega), nat_join 8 _ _ (Nat.mul_mod_left _ 256) (show _ < 256 by omega), take_snoc8 l k h, beNum_snoc]
end Go.Proofs.YtkomocgodljecaaGreatDoor
/- The cursor's Number, walked. -/
namespace Go.Proofs.YtkomocgodljecaaGreatDoor
open Go.RowKit

theorem number_some (b d off n cap at_ : Nat) (m : Nat) (big : Bool) (l : List UInt8) (w : World)
   (h : w.heap[b]? = some (.cells #[.slice (some ⟨d, off, none⟩) n cap, .int .i64 at_, .bool big, .bool false] 94 (0, 0)))
   (hn : n ≤ 140737488355328) (hc : n ≤ cap) (hc2 : cap ≤ 9223372036854775807) (hm : m = 1 ∨ m = 2 ∨ m = 4 ∨ m = 8) (hm2 : at_ + m ≤ n) (hbd : d ≠ b) (hll : l.length = m)
   (hl : ∀ j, j < m → w.cell? ⟨d, off + at_ + j, none⟩ = some (.int .u8 (l.getD j 0).toNat)) :
    Calls Tryz.prog 32 #[.pointer (some ⟨b, 0, none⟩), .int .i64 m] w fun e w' =>
      e = .returned (.int .u64 (numOf big l)) ∧ Dr (w.setCell ⟨b, 1, none⟩ (.int .i64 ((at_ : Int) + m))) w' := by
  rcases hm with rfl | rfl | rfl | rfl
  all_goals
    go_enter Tryz.func32, Tryz.ntmps32
    go_wp2_with fail
    refine (well_any b _ _ _ false true w h).mono ?_
    rintro e w' ⟨rfl, rfl⟩
    go_wp2_with fail
    refine (take_some b (some ⟨d, off, none⟩) n cap at_ _ _ w h (by omega) hn (by omega) (by omega) (by omega) hc hc2 (fun _ => ⟨_, _, rfl⟩)).mono ?_
    rintro e w1 ⟨rfl, hd⟩
    have hb2 := (hd.cell ⟨b, 2, none⟩).trans ((World.cell?_setCell_other w ⟨b, 1, none⟩ ⟨b, 2, none⟩ _ (by simp)).trans (cell_of_heap h 2))
    have hl2 := fun j hj => (hd.cell ⟨d, off + at_ + j, none⟩).trans ((World.cell?_setCell_other w ⟨b, 1, none⟩ ⟨d, off + at_ + j, none⟩ _ (by simp)).trans (hl j hj))
    clear hl h
    simp at hb2
    have HL := Lib.hid hll
    have HD := Lib.hid hd
    clear hll hd
    go_wp2_with fail
    go_loop [4, 5, 6, 28] (fun acc i x k28 => ∃ (k : Nat), k ≤ l.length ∧ k28 = .int .i64 k ∧ acc = .int .u64 (numOf big (l.take k))) (fun _ _ _ k28 => l.length - (intOf k28).toNat)
    case atStart => exact ⟨0, by omega, rfl, by cases big <;> rfl⟩
    case round =>
      obtain ⟨k, hk, rfl, rfl⟩ := hrel
      rw [HL.out] at hk
      by_cases hlt : k < l.length
      · have hlt' := hlt
        rw [HL.out] at hlt'
        have hlk := hl2 k hlt'
        have HS := Lib.hid (le_step l k hlt (by rw [HL.out]; omega))
        have HB := Lib.hid (be_step l k hlt (by rw [HL.out]; omega))
        have HX := Lib.hid hlt
        clear hlt hl2
        cases big
        all_goals
          simp only [numOf, if_true, if_false, Bool.false_eq_true]
          go_wp2
          go_round
          case rel => exact ⟨k + 1, HX.out, by go_num, by first | rw [HS.out] | rw [HB.out]⟩
          case measure => have := HX.out; simp [intOf]; omega
      · have hge := Nat.le_of_not_lt hlt
        have E2 := Lib.hid (List.take_of_length_le hge)
        rw [HL.out] at hge
        clear hlt hl2
        go_wp2
        go_ret
        exact ⟨by rw [E2.out]; rfl, HD.out⟩
end Go.Proofs.YtkomocgodljecaaGreatDoor
/- The cursor as an abstract state (bytes, place, which way round, failed), and what each method does to it. -/
namespace Go.Proofs.YtkomocgodljecaaGreatDoor
open Go.RowKit

structure CS where
  l : List UInt8
  at_ : Nat
  big : Bool
  failed : Bool
/-- The cursor at block b is in state s. -/
def CurB (w : World) (b : Nat) (s : CS) : Prop :=
  ∃ a n cap, w.heap[b]? = some (.cells #[.slice a n cap, .int .i64 s.at_, .bool s.big, .bool s.failed] 94 (0, 0)) ∧ n = s.l.length ∧ n ≤ cap ∧ cap ≤ maxLen ∧ n ≤ 140737488355328 ∧ s.at_ ≤ n ∧
    (0 < n → ∃ d off c, a = some ⟨d, off, none⟩ ∧ d < b ∧ w.heap[d]? = some (.cells c 5 (0, 0)) ∧ ∀ j, j < n → w.cell? ⟨d, off + j, none⟩ = some (.int .u8 (s.l.getD j 0).toNat))

theorem CurB.lt {w : World} {b : Nat} {s : CS} (h : CurB w b s) : b < w.heap.size := by
  obtain ⟨a, n, cap, hb, _⟩ := h; exact lt_of_heap hb
theorem CurB.at_le {w : World} {b : Nat} {s : CS} (h : CurB w b s) : s.at_ ≤ s.l.length := by
  obtain ⟨a, n, cap, hb, rfl, _, _, _, h, _⟩ := h; exact h
theorem CurB.frame {w w' : World} {b : Nat} {s : CS} (h : CurB w b s) (k : Chg [] w w') : CurB w' b s := by
  obtain ⟨a, n, cap, hb, h1, h2, h3, h4, h5, h6⟩ := h
  refine ⟨a, n, cap, k.heap hb (by simp), h1, h2, h3, h4, h5, fun hn => ?_⟩
  obtain ⟨d, off, c, ha, hdb, hd, hc⟩ := h6 hn
  exact ⟨d, off, c, ha, hdb, k.heap hd (by simp), fun j hj => k.cell (hc j hj) (by simp)⟩
/-- A store into one of the cursor's own cells but the first. -/
theorem CurB.store {w w' : World} {b : Nat} {s s' : CS} (h : CurB w b s) (j : Nat) (v : Value) (hd : Dr (w.setCell ⟨b, j, none⟩ v) w') (hl : s'.l = s.l) (hat : s'.at_ ≤ s.l.length)
    (hs : ∀ x, (#[x, .int .i64 s.at_, .bool s.big, .bool s.failed] : Array Value).setIfInBounds j v = #[x, .int .i64 s'.at_, .bool s'.big, .bool s'.failed]) : CurB w' b s' ∧ Chg [b] w w' := by
  obtain ⟨a, n, cap, hb, h1, h2, h3, h4, h5, h6⟩ := h
  have hc : Chg [b] w w' := ((Chg.refl [b] w).setCell ⟨b, j, none⟩ v (.inl (by simp))).dr hd
  refine ⟨⟨a, n, cap, ?_, by rw [hl]; exact h1, h2, h3, h4, by rw [h1]; exact hat, fun hn => ?_⟩, hc⟩
  · rw [hd.heap, heap_setCell hb, hs]
  · obtain ⟨d, off, c, ha, hdb, hd', hc'⟩ := h6 hn
    exact ⟨d, off, c, ha, hdb, hc.heap hd' (by simp; omega), fun j hj => by rw [hl]; exact hc.cell (hc' j hj) (by simp; omega)⟩

def failS (s : CS) : CS := { s with failed := true }
def seekS (s : CS) (at_ : Int) : CS := if 0 ≤ at_ ∧ at_ ≤ s.l.length then (if s.failed then s else { s with at_ := at_.toNat }) else failS s
def okSize (n : Int) : Bool := n = 1 ∨ n = 2 ∨ n = 4 ∨ n = 8
/-- May so many bytes be taken? -/
def canTake (s : CS) (n : Int) : Bool := !s.failed && decide (0 ≤ n ∧ n ≤ s.l.length - s.at_)
def takeS (s : CS) (n : Int) : CS := if canTake s n then { s with at_ := s.at_ + n.toNat } else failS s
def takeL (s : CS) (n : Int) : List UInt8 := if canTake s n then (s.l.drop s.at_).take n.toNat else []
def numberS (s : CS) (n : Int) : CS := if okSize n then takeS s n else failS s
def numberV (s : CS) (n : Int) : Nat := if okSize n then numOf s.big (takeL s n) else 0

theorem At_cur (b : Nat) (s : CS) (w : World) (h : CurB w b s) : Calls Tryz.prog 119 #[.pointer (some ⟨b, 0, none⟩)] w fun e w' => e = .returned (.int .i64 s.at_) ∧ w = w' := by
  obtain ⟨a, n, cap, hb, _⟩ := h
  exact At_any b _ _ _ _ w hb
theorem Left_cur (b : Nat) (s : CS) (w : World) (h : CurB w b s) :
    Calls Tryz.prog 31 #[.pointer (some ⟨b, 0, none⟩)] w fun e w' => e = .returned (.int .i64 ((s.l.length : Int) - s.at_)) ∧ Dr w w' := by
  obtain ⟨a, n, cap, hb, rfl, h2, h3, h4, h5, h6⟩ := h
  exact Left_any b _ _ _ _ _ _ w hb (by omega) h4 (by omega)
theorem Fail_cur (b : Nat) (s : CS) (w : World) (h : CurB w b s) :
    Calls Tryz.prog 76 #[.pointer (some ⟨b, 0, none⟩)] w fun e w' => e = .returned (.tuple #[]) ∧ CurB w' b (failS s) ∧ Chg [b] w w' := by
  have h' := h
  obtain ⟨a, n, cap, hb, _⟩ := h
  refine (Fail_any b _ _ _ _ w hb).mono fun e w' ⟨he, hw⟩ => ⟨he, ?_⟩
  subst hw
  exact h'.store 3 _ (Dr.refl _) rfl h'.at_le (fun x => rfl)
theorem well_cur (b : Nat) (s : CS) (is : Bool) (w : World) (h : CurB w b s) :
    Calls Tryz.prog 61 #[.pointer (some ⟨b, 0, none⟩), .bool is] w fun e w' => e = .returned (.bool (is && !s.failed)) ∧ CurB w' b (if is then s else failS s) ∧ Chg [b] w w' := by
  have h' := h
  obtain ⟨a, n, cap, hb, _⟩ := h
  refine (well_any b _ _ _ _ is w hb).mono fun e w' ⟨he, hw⟩ => ⟨he, ?_⟩
  subst hw
  cases is
  · exact h'.store 3 _ (Dr.refl _) rfl h'.at_le (fun x => rfl)
  · exact ⟨h', Chg.refl _ _⟩

theorem Seek_cur (b : Nat) (s : CS) (at_ : Int) (w : World) (h : CurB w b s) :
    Calls Tryz.prog 120 #[.pointer (some ⟨b, 0, none⟩), .int .i64 at_] w fun e w' => e = .returned (.tuple #[]) ∧ CurB w' b (seekS s at_) ∧ Chg [b] w w' := by
  have h' := h
  obtain ⟨a, n, cap, hb, h1, h2, h3, h4, h5, h6⟩ := h
  have hc0 := cell_of_heap hb 0
  have hc1 := cell_of_heap hb 1
  have f1 := frozen_of_heap hb 1
  simp at hc0 hc1
  have H1 := Lib.hid h1
  have hat := Lib.hid h'.at_le
  clear h1 h6
  unfold maxLen at h3
  have HP : Hid ((0 ≤ at_ ∧ at_ ≤ n) = (0 ≤ at_ ∧ at_ ≤ (s.l.length : Int))) := by rw [← H1.out]; exact rfl
  have H' := Lib.hid h'
  clear h'
  by_cases hi : 0 ≤ at_ ∧ at_ ≤ n
  · obtain ⟨hi1, hi2⟩ := hi
    have HC : Hid (0 ≤ at_ ∧ at_ ≤ (s.l.length : Int)) := by show _; rw [← H1.out]; exact ⟨hi1, hi2⟩
    cases hf : s.failed with
    | true =>
      rw [hf] at hb
      have HF := Lib.hid hf
      clear hf
      go_enter Tryz.func120, Tryz.ntmps120
      go_wp2_with fail
      refine (well_any b _ _ _ true true w hb).mono ?_
      rintro e w' ⟨rfl, rfl⟩
      go_wp2
      go_end0
      exact ⟨rfl, by unfold seekS; rw [if_pos HC.out, if_pos HF.out]; exact H'.out, Chg.refl _ _⟩
    | false =>
      rw [hf] at hb
      have HF := Lib.hid hf
      clear hf
      go_enter Tryz.func120, Tryz.ntmps120
      go_wp2_with fail
      refine (well_any b _ _ _ false true w hb).mono ?_
      rintro e w' ⟨rfl, rfl⟩
      go_wp2
      go_end0
      refine ⟨rfl, ?_⟩
      unfold seekS; rw [if_pos HC.out, if_neg (by rw [HF.out]; decide)]
      refine H'.out.store 1 _ (Dr.refl _) rfl (by have := HC.out; show at_.toNat ≤ _; omega) (fun x => ?_)
      simp; omega
  · have HC : Hid (¬ (0 ≤ at_ ∧ at_ ≤ (s.l.length : Int))) := by show ¬ _; rw [← H1.out]; exact hi
    have hn : at_ < 0 ∨ (0 ≤ at_ ∧ n < at_) := by omega
    clear hi
    have hdec : 0 ≤ at_ → decide (at_ ≤ (n : Int)) = false := fun h => by simp; omega
    rcases hn with hn | ⟨hn1, hn2⟩
    rotate_left
    have hdec := hdec hn1
    rotate_left
    all_goals
      go_enter Tryz.func120, Tryz.ntmps120
      go_wp2_with fail
      refine (well_cur b s false w H'.out).mono ?_
      rintro e w' ⟨rfl, hcur, hchg⟩
      simp only [Bool.false_and]
      have HR := Lib.hid hcur
      have HG := Lib.hid hchg
      clear hcur hchg
      go_wp2
      go_end0
      refine ⟨rfl, ?_, HG.out⟩
      have := HR.out
      unfold seekS; rw [if_neg HC.out]; simpa using this
end Go.Proofs.YtkomocgodljecaaGreatDoor
/- The cursor's Wrong and Err; New. -/
namespace Go.Proofs.YtkomocgodljecaaGreatDoor
open Go.RowKit

theorem Wrong_bad (b : Nat) (al : Value) (at_ : Int) (bg : Value) (w : World) (h : w.heap[b]? = some (.cells #[al, .int .i64 at_, bg, .bool true] 94 (0, 0))) :
    Calls Tryz.prog 96 #[.pointer (some ⟨b, 0, none⟩)] w fun e w' =>
      e = .returned (.iface 145 (.pointer (some ⟨w.heap.size, 0, none⟩))) ∧ w.alloc (.cells #[.int .i64 at_, .int .i64 3] 147) = w' := by
  have h1 := cell_of_heap h 1
  have h3 := cell_of_heap h 3
  clear h
  simp at h1 h3
  go_enter Tryz.func96, Tryz.ntmps96
  go_wp2
  go_ret
  exact ⟨rfl, rfl⟩
theorem Wrong_ok (b : Nat) (al at_ bg : Value) (w : World) (h : w.heap[b]? = some (.cells #[al, at_, bg, .bool false] 94 (0, 0))) :
    Calls Tryz.prog 96 #[.pointer (some ⟨b, 0, none⟩)] w fun e w' => e = .returned .nilIface ∧ w = w' := by
  have h3 := cell_of_heap h 3
  clear h
  simp at h3
  go_enter Tryz.func96, Tryz.ntmps96
  go_wp2
  go_ret
  exact ⟨rfl, rfl⟩

theorem Code_nil (w : World) : Calls Tryz.prog 95 #[.nilIface] w fun e w' => e = .returned (.int .i64 0) ∧ Chg [] w w' := by
  go_enter Tryz.func95, Tryz.ntmps95
  go_wp2
  go_ret
  exact ⟨rfl, (Chg.refl _ _).alloc _⟩
theorem Code_wrong (b : Nat) (at_ : Value) (n : Int) (w : World) (hg : Env w) (hb : w.heap[b]? = some (.cells #[at_, .int .i64 n] 147 (0, 0))) :
    Calls Tryz.prog 95 #[.iface 145 (.pointer (some ⟨b, 0, none⟩))] w fun e w' => e = .returned (.int .i64 n) ∧ Chg [] w w' := by
  have HG := Lib.hid (hg.frame ((Chg.refl [] w).alloc (.cells #[.int .i64 0] 35)) (by simp))
  have HB := Lib.hid (((Chg.refl [] w).alloc (.cells #[.int .i64 0] 35)).heap hb (by simp))
  have HT := Lib.hid (heap_alloc_eq w (.cells #[.int .i64 0] 35))
  clear hg hb
  go_enter Tryz.func95, Tryz.ntmps95
  go_wp2_with fail
  refine (as_wrong b w.heap.size at_ n (.int .i64 0) _ HG.out HT.out HB.out).mono ?_
  rintro e w1 ⟨rfl, ht, hc⟩
  have ht0 := cell_of_heap ht 0
  simp only [List.getElem?_toArray, List.getElem?_cons_zero] at ht0
  have HC := Lib.hid hc
  clear hc ht
  go_wp2
  go_ret
  exact ⟨rfl, ((Chg.refl [] w).alloc _).new HC.out (Nat.le_refl _)⟩

theorem Err_ok (b : Nat) (s : CS) (w : World) (h : CurB w b s) (hf : s.failed = false) :
    Calls Tryz.prog 71 #[.pointer (some ⟨b, 0, none⟩)] w fun e w' => e = .returned (.int .i64 0) ∧ Chg [] w w' := by
  obtain ⟨a, n, cap, hb, _⟩ := h
  rw [hf] at hb
  have HB := Lib.hid hb
  clear hb hf
  go_enter Tryz.func71, Tryz.ntmps71
  go_wp2_with fail
  refine (Wrong_ok b _ _ _ w HB.out).mono ?_
  rintro e w1 ⟨rfl, rfl⟩
  go_wp2_with fail
  refine (Code_nil w).mono ?_
  rintro e w1 ⟨rfl, hc⟩
  have HC := Lib.hid hc
  clear hc
  go_wp2
  go_ret
  exact ⟨rfl, HC.out⟩
theorem Err_bad (b : Nat) (s : CS) (w : World) (hg : Env w) (h : CurB w b s) (hf : s.failed = true) :
    Calls Tryz.prog 71 #[.pointer (some ⟨b, 0, none⟩)] w fun e w' => e = .returned (.int .i64 3) ∧ Chg [] w w' := by
  obtain ⟨a, n, cap, hb, _⟩ := h
  rw [hf] at hb
  have HB := Lib.hid hb
  have HG := Lib.hid hg
  clear hb hf hg
  go_enter Tryz.func71, Tryz.ntmps71
  go_wp2_with fail
  refine (Wrong_bad b _ _ _ w HB.out).mono ?_
  rintro e w1 ⟨rfl, rfl⟩
  go_wp2_with fail
  refine (Code_wrong _ _ 3 _ (HG.out.frame ((Chg.refl [] w).alloc _) (by simp)) (heap_alloc_eq w _)).mono ?_
  rintro e w1 ⟨rfl, hc⟩
  have HC := Lib.hid hc
  clear hc
  go_wp2
  go_ret
  exact ⟨rfl, ((Chg.refl [] w).alloc _).then HC.out⟩
theorem Clone_nil (n cap : Nat) (w : World) : Calls Tryz.prog 47 #[.slice none n cap] w fun e w' => e = .returned (.slice none 0 0) ∧ w = w' := by
  have hsn := @Lib.run_eql_slice_nil Tryz.prog
  go_enter Tryz.func47, Tryz.ntmps47
  go_wp2
  go_ret
  exact ⟨rfl, rfl⟩
end Go.Proofs.YtkomocgodljecaaGreatDoor
