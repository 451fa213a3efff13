/- Lemmas, laid together: part 20 of 42. Conditions: none but each lemma's own. -/
import Derived.Test.YtiljokmkiolpgaaGreatDoorJ19
import Derived.BigQuiet
import Derived.Deep.QuietTactic
import Derived.Test.YtiljokmkiolpgaaGreatDoorJ10
import Derived.WalkMore
import Derived.Test.YtiljokmkiolpgaaGreatDoorJ1
namespace Go.Proofs.YtiljokmkiolpgaaGreatDoor
open Go.RowKit
set_option maxRecDepth 100000
theorem leNum_drop (l : List UInt8) (m : Nat) (h : m < l.length) : leNum (l.drop m) = (l.getD m 0).toNat + 256 * leNum (l.drop (m + 1)) := by
 rw [List.drop_eq_getElem_cons h]
 show l[m].toNat + 256 * leNum (l.drop (m + 1)) = _
 simp [List.getD_eq_getElem?_getD, h]
theorem byte_cell {w : World} {b off n cap : Nat} {l : List UInt8} (h : byteL.Rd w (.slice (some ⟨b, off, none⟩) n cap) l) (j : Nat) (hj : j < l.length) : w.cell? ⟨b, off + j, none⟩ = some (.int .u8 (l.getD j 0).toNat) := by
 obtain ⟨_, _, _, e, _, _, _, hx⟩ := h
 cases e
 obtain ⟨b', o', e, _, hc⟩ := hx (by rintro rfl; simp at hj)
 cases e
 have := hc j hj 0 (by decide)
 rw [show byteL.n = 1 from rfl, Nat.mul_one, Nat.add_zero] at this
 rw [this]
 rfl
set_option maxHeartbeats 4000000 in
theorem Get5_any (l : List UInt8) (hl : l.length ≤ 8) (b off cap : Nat) (w : World) (rd : byteL.Rd w (.slice (some ⟨b, off, none⟩) l.length cap) l) :
  Calls Tryz.prog 114 #[.slice (some ⟨b, off, none⟩) l.length cap] w fun e w' => e = .returned (.int .u64 (leNum l)) ∧ w' = w := by
 have Rd := hY rd
 clear rd
 go_enter Tryz.func114, Tryz.ntmps114
 go_wp2_with fail
 go_loopw [3, 4] (fun s3 s4 wr => ∃ k : Nat, k ≤ l.length ∧ s4 = .int .i64 ((k : Int) - 1) ∧ s3 = .int .u64 (leNum (l.drop k)) ∧ wr = w) (fun _ s4 _ => (intOf s4 + 1).toNat)
 case atStart => exact ⟨l.length, Nat.le_refl _, rfl, by rw [List.drop_length]; rfl, rfl⟩
 case round =>
  obtain ⟨k, hk, rfl, rfl, rfl⟩ := hrel
  cases k with
  | zero =>
   go_wp2
   go_ret
   exact ⟨rfl, rfl⟩
  | succ m =>
   have hc := byte_cell Rd.out m hk
   have hdr := leNum_drop l m hk
   have hb := leNum_lt (l.drop (m + 1))
   have h7 : (l.drop (m + 1)).length ≤ 7 := by rw [List.length_drop]; omega
   have hp : 256 ^ (l.drop (m + 1)).length ≤ 256 ^ 7 := Nat.pow_le_pow_right (by decide) h7
   have hx := (l.getD m 0).toNat_lt
   obtain ⟨N, hN⟩ : ∃ N, N = leNum (l.drop (m + 1)) := ⟨_, rfl⟩
   obtain ⟨x, hxx⟩ : ∃ x, x = (l.getD m 0).toNat := ⟨_, rfl⟩
   rw [← hN, ← hxx] at hdr
   rw [← hN] at hb ⊢
   rw [← hxx] at hc hx
   have hN7 : N < 72057594037927936 := by omega
   have hw : IntKind.u64.wrap (IntKind.u64.wrap ((N : Int) * 256) + (x : Int)) = ((x + 256 * N : Nat) : Int) := by
    rw [IntKind.wrap_u64, IntKind.wrap_u64]; omega
   rw [show (((m + 1 : Nat) : Int) - 1) = (m : Int) by omega]
   have Hb := hY hb
   have Hp := hY hp
   have HN := hY hN
   have Hxx := hY hxx
   have HN7 := hY hN7
   have Hdr := hY hdr
   have H7 := hY h7
   clear hb hp hN hxx hN7 hdr h7
   go_wp2
   go_roundw
   case rel => exact ⟨m, by omega, rfl, by rw [Hdr.out]; exact congrArg (Value.int .u64) (by omega), trivial⟩
   case measure => simp [intOf]
theorem at5_any (l : List UInt8) (p m : Nat) (hm : m ≤ 8) (hm0 : 0 < m) (hp : p + m ≤ l.length) (v : Value) (w : World) (rd : byteL.Rd w v l) :
  Calls Tryz.prog 99 #[v, .int .i64 p, .int .i64 m] w fun e w' => e = .returned (.int .u64 (leNum ((l.drop p).take m))) ∧ w' = w := by
 obtain ⟨a, cap, rfl, h1, h2⟩ := rd.shape
 have hne : l.length ≠ 0 := by omega
 obtain ⟨b, off, rfl, _⟩ := rd.at hne
 have hlen : ((l.drop p).take m).length = m := by rw [List.length_take, List.length_drop]; omega
 have hsub := Rd_sub rd p m (cap - p) hp (by omega) (by unfold maxLen; omega)
 have hget := Get5_any ((l.drop p).take m) (by omega) b (off + p) (cap - p) w (by rw [hlen]; exact hsub)
 rw [hlen] at hget
 have Rd := hY rd
 have Hsub := hY hsub
 have Hget := hY hget
 have Hlen := hY hlen
 clear rd hsub hget hlen
 go_enter Tryz.func99, Tryz.ntmps99
 go_wp2_with fail
 refine (Hget.out).mono ?_
 rintro e W ⟨rfl, rfl⟩
 go_wp2
 go_ret
 exact ⟨rfl, rfl⟩
theorem Least5_any (c : Int) (w : World) : Calls Tryz.prog 75 #[.int .u32 c] w fun e w' => e = .returned (.int .i64 (leastF c)) ∧ w' = w := by
 by_cases hk : leastF c = 0
 ·rw [hk]
  have e1 : (c == 25) = false := by rw [beq_eq_false_iff_ne]; rintro rfl; exact absurd hk (by decide)
  have e2 : (c == 34) = false := by rw [beq_eq_false_iff_ne]; rintro rfl; exact absurd hk (by decide)
  have e3 : (c == 2147483682) = false := by rw [beq_eq_false_iff_ne]; rintro rfl; exact absurd hk (by decide)
  have e4 : (c == 2) = false := by rw [beq_eq_false_iff_ne]; rintro rfl; exact absurd hk (by decide)
  have e5 : (c == 12) = false := by rw [beq_eq_false_iff_ne]; rintro rfl; exact absurd hk (by decide)
  have e6 : (c == 13) = false := by rw [beq_eq_false_iff_ne]; rintro rfl; exact absurd hk (by decide)
  have e7 : (c == 2147483672) = false := by rw [beq_eq_false_iff_ne]; rintro rfl; exact absurd hk (by decide)
  have e8 : (c == 2147483679) = false := by rw [beq_eq_false_iff_ne]; rintro rfl; exact absurd hk (by decide)
  have e9 : (c == 2147483683) = false := by rw [beq_eq_false_iff_ne]; rintro rfl; exact absurd hk (by decide)
  have ea : (c == 2147483688) = false := by rw [beq_eq_false_iff_ne]; rintro rfl; exact absurd hk (by decide)
  have eb : (c == 2147483699) = false := by rw [beq_eq_false_iff_ne]; rintro rfl; exact absurd hk (by decide)
  have ec : (c == 2147483700) = false := by rw [beq_eq_false_iff_ne]; rintro rfl; exact absurd hk (by decide)
  clear hk
  go_enter Tryz.func75, Tryz.ntmps75
  go_wp2
  go_ret
  exact ⟨rfl, rfl⟩
 ·rcases known_cases hk with rfl | rfl | rfl | rfl | rfl | rfl | rfl | rfl | rfl | rfl | rfl | rfl
  all_goals
   clear hk
   go_enter Tryz.func75, Tryz.ntmps75
   go_wp2
   go_ret
   exact ⟨rfl, rfl⟩
theorem Dep5_any (c : Int) (w : World) : Calls Tryz.prog 77 #[.int .u32 c] w fun e w' => e = .returned (.int .i64 (depK c)) ∧ w' = w := by
 unfold depK
 by_cases h1 : c = 12
 ·subst h1
  go_enter Tryz.func77, Tryz.ntmps77
  go_wp2
  go_ret
  exact ⟨rfl, rfl⟩
 ·rw [if_neg h1]
  have e1 : (c == 12) = false := by rw [beq_eq_false_iff_ne]; exact h1
  by_cases h2 : c = 2147483672
  ·subst h2
   clear h1
   go_enter Tryz.func77, Tryz.ntmps77
   go_wp2
   go_ret
   exact ⟨rfl, rfl⟩
  ·rw [if_neg h2]
   have e2 : (c == 2147483672) = false := by rw [beq_eq_false_iff_ne]; exact h2
   by_cases h3 : c = 2147483679
   ·subst h3
    clear h1 h2
    go_enter Tryz.func77, Tryz.ntmps77
    go_wp2
    go_ret
    exact ⟨rfl, rfl⟩
   ·rw [if_neg h3]
    have e3 : (c == 2147483679) = false := by rw [beq_eq_false_iff_ne]; exact h3
    by_cases h4 : c = 2147483683
    ·subst h4
     clear h1 h2 h3
     go_enter Tryz.func77, Tryz.ntmps77
     go_wp2
     go_ret
     exact ⟨rfl, rfl⟩
    ·rw [if_neg h4]
     have e4 : (c == 2147483683) = false := by rw [beq_eq_false_iff_ne]; exact h4
     clear h1 h2 h3 h4
     go_enter Tryz.func77, Tryz.ntmps77
     go_wp2
     go_ret
     exact ⟨rfl, rfl⟩
def cmdN (l : List UInt8) : Nat := if l.length < 8 then 0 else n4 l 0
set_option maxHeartbeats 4000000 in
theorem Cmd5_any (l : List UInt8) (v : Value) (w : World) (rd : byteL.Rd w v l) :
  Calls Tryz.prog 74 #[v] w fun e w' => e = .returned (.tuple #[.int .u32 (cmdN l), .int .i64 (opE l)]) ∧ w' = w := by
 obtain ⟨a, cap, rfl, hc1, hc2⟩ := rd.shape
 unfold cmdN opE
 by_cases h8 : l.length < 8
 ·rw [if_pos h8, if_pos h8]
  have d1 : decide ((l.length : Int) < 8) = true := decide_eq_true (by omega)
  have H8 := hY h8
  have Rd := hY rd
  clear h8 rd
  go_enter Tryz.func74, Tryz.ntmps74
  go_wp2
  go_ret2
  exact ⟨rfl, rfl⟩
 ·rw [if_neg h8, if_neg h8]
  have d1 : decide ((l.length : Int) < 8) = false := decide_eq_false (by omega)
  have hat := at5_any l 0 4 (by decide) (by decide) (by omega) _ w rd
  have hn := n4_lt l 0
  rw [show leNum ((l.drop 0).take 4) = n4 l 0 from rfl] at hat
  obtain ⟨z, hz⟩ : ∃ z, z = n4 l 0 := ⟨_, rfl⟩
  rw [← hz] at hat hn ⊢
  have hw4 : ((z : Nat) : Int) % 4294967296 = (z : Nat) := by omega
  have hle := Least5_any (z : Int) w
  obtain ⟨q, hq⟩ : ∃ q, q = leastF (z : Int) := ⟨_, rfl⟩
  rw [← hq] at hle ⊢
  have HAT := hY hat
  have Hz := hY hz
  have Rd := hY rd
  have HLE := hY hle
  have Hn := hY hn
  have H8 := hY h8
  have Hq := hY hq
  clear hat hz rd hle hn h8 hq
  by_cases h9 : (l.length : Int) < q
  ·rw [if_pos h9]
   have d9 : decide ((l.length : Int) < q) = true := decide_eq_true h9
   have H9 := hY h9
   clear h9
   go_enter Tryz.func74, Tryz.ntmps74
   go_wp2_with fail
   refine (HAT.out).mono ?_
   rintro e W ⟨rfl, rfl⟩
   go_wp2_with fail
   refine (HLE.out).mono ?_
   rintro e W ⟨rfl, rfl⟩
   go_wp2
   go_ret2
   exact ⟨rfl, rfl⟩
  ·rw [if_neg h9]
   have d9 : decide ((l.length : Int) < q) = false := decide_eq_false h9
   have H9 := hY h9
   clear h9
   go_enter Tryz.func74, Tryz.ntmps74
   go_wp2_with fail
   refine (HAT.out).mono ?_
   rintro e W ⟨rfl, rfl⟩
   go_wp2_with fail
   refine (HLE.out).mono ?_
   rintro e W ⟨rfl, rfl⟩
   go_wp2
   go_ret2
   exact ⟨rfl, rfl⟩
def SegRd (w : World) (s : Seg) (p : SegP) : Prop := s.bare = p.s ∧ secL.Rd w (.slice s.secs.a s.secs.n s.secs.cap) p.ks
theorem SegRd.frame {w w' : World} {s : Seg} {p : SegP} (h : SegRd w s p) (k : Chg [] w w') : SegRd w' s p := ⟨h.1, h.2.frame k⟩
def DRd (w : World) (m : Img) (p : TP) : Prop := ∃ xs, m.bare = p.m ∧ segL.Rd w (.slice m.segs.a m.segs.n m.segs.cap) xs ∧ xs.length = p.segs.length ∧ (∀ i, i < xs.length → SegRd w (xs.getD i .zero) (p.segs.getD i .zero)) ∧ depL.Rd w (.slice m.deps.a m.deps.n m.deps.cap) p.deps
theorem DRd.frame {w w' : World} {m : Img} {p : TP} (h : DRd w m p) (k : Chg [] w w') : DRd w' m p := by
 obtain ⟨xs, h1, h2, h3, h4, h5⟩ := h
 exact ⟨xs, h1, h2.frame k, h3, fun i hi => (h4 i hi).frame k, h5.frame k⟩
theorem DImg.rd {w : World} {base : Nat} {m : Img} {p : TP} (h : DImg w base m p) : DRd w m p := by
 obtain ⟨xs, h1, h2, h3, h4⟩ := h
 exact ⟨xs, h1, h2.rd, h3.1, fun i hi => ⟨(h3.2 i hi).1, (h3.2 i hi).2.rd⟩, h4.rd⟩
theorem DRd.zero (w : World) (s : Int → Bool) (n : Nat) : DRd w .zero ⟨Img.zero, [], [], s, n⟩ := ⟨[], rfl, Lay.Rd.nil _, rfl, fun i hi => absurd hi (by simp), Lay.Rd.nil _⟩
def secB (s : Seg) (x : Sec) : Bool := decide (s.addr ≤ x.addr) && (withinI (x.addr - s.addr) x.size s.size && (decide (x.kind = 1) || (decide (x.off = IntKind.u64.wrap (s.off + (x.addr - s.addr))) && withinI (x.addr - s.addr) x.size s.fsize)))
def segSecB (p : SegP) : Bool := p.ks.all (secB p.s)
def secsE (ps : List SegP) : Int := if ps.all segSecB = true then 0 else 9
def SecB (x : Sec) : Prop := (0 ≤ x.addr ∧ x.addr < 18446744073709551616) ∧ (0 ≤ x.size ∧ x.size < 18446744073709551616) ∧ (0 ≤ x.off ∧ x.off < 18446744073709551616)
structure ImB (ps : List SegP) : Prop where
 seg : ∀ k, k < ps.length → SegB (ps.getD k .zero).s
 sec : ∀ k, k < ps.length → ∀ j, j < (ps.getD k .zero).ks.length → SecB ((ps.getD k .zero).ks.getD j .zero)
theorem seg_bare {s : Seg} {q : Seg} (h : s.bare = q) : s.name = q.name ∧ s.addr = q.addr ∧ s.size = q.size ∧ s.off = q.off ∧ s.fsize = q.fsize ∧ s.prot = q.prot := by subst h; exact ⟨rfl, rfl, rfl, rfl, rfl, rfl⟩
theorem meas_w {L k : Nat} (hw : wrap64 ((k : Int) + 1) = (k : Int) + 1) (h : k < L) : L - (intOf (.int .i64 (wrap64 ((k : Int) + 1)))).toNat < L - (intOf (.int .i64 (k : Int))).toNat := by
 rw [hw]
 show L - ((k : Int) + 1).toNat < L - (k : Int).toNat
 omega
theorem bad9 {E : Int} {ps r : List SegP} {p : SegP} {ks : List Sec} {s : Seg} (h1 : E = if ps.all segSecB = true then 0 else 9) (h2 : (segSecB p && r.all segSecB) = ps.all segSecB) (h3 : segSecB p = ks.all (secB s)) (h4 : false = ks.all (secB s)) : E = 9 := by
 rw [h1, ← h2, h3, ← h4]
 rfl
def highF (h : Int) (s : Seg) : Int := if holeS s = true then h else max h (IntKind.u64.wrap (s.addr + s.size))
def highS (ls : List Seg) : Int := ls.foldl highF 0
def namesE (m : Img) : Int := if (decide (m.kind = 6)) = !(decide (m.name.toList = [])) then 0 else 10
theorem meas_v {L k : Nat} (h : k < L) : L - (intOf (.int .i64 ((k : Int) + 1))).toNat < L - (intOf (.int .i64 (k : Int))).toNat := by
 show L - ((k : Int) + 1).toNat < L - (k : Int).toNat
 omega
def spans8 (m : Img) : List Spn := [⟨m.rbO, m.rbS⟩, ⟨m.bdO, m.bdS⟩, ⟨m.wkO, m.wkS⟩, ⟨m.lzO, m.lzS⟩, ⟨m.trO, m.trS⟩, ⟨m.chO, m.chS⟩, ⟨m.syO, m.syS⟩, ⟨m.stO, m.stS⟩]
def spnB (n : Int) (x : Spn) : Bool := withinI x.off x.size n
def SpnsB (m : Img) : Prop := ∀ j, j < (spans8 m).length → (0 ≤ ((spans8 m).getD j .zero).off ∧ ((spans8 m).getD j .zero).off < 18446744073709551616) ∧ 0 ≤ ((spans8 m).getD j .zero).size ∧ ((spans8 m).getD j .zero).size < 18446744073709551616
def spansE (n : Int) (m : Img) (ls : List Seg) : Int :=
 if (spans8 m).all (spnB n) = true then (if m.syS % 16 = 0 then (if m.has = true then (if IntKind.u64.wrap (highS ls - lowS ls) ≤ m.entry then 4 else 0) else 0) else 4) else 4
def firstE : List Int → Int
 | [] => 0
 | e :: r => if e = 0 then firstE r else e
theorem firstE_zero {r : List Int} : firstE (0 :: r) = firstE r := rfl
theorem firstE_ne {e : Int} {r : List Int} (h : ¬ e = 0) : firstE (e :: r) = e := if_neg h
end Go.Proofs.YtiljokmkiolpgaaGreatDoor
