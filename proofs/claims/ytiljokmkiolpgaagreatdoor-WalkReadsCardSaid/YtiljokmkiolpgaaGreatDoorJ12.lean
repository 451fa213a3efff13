/- Lemmas, laid together: part 12 of 42. Conditions: none but each lemma's own. -/
import Derived.Test.YtiljokmkiolpgaaGreatDoorJ11
import Derived.Test.YtiljokmkiolpgaaGreatDoorJ3
import Derived.StillTailTactics
import Derived.Test.YtiljokmkiolpgaaGreatDoorJ2
import Derived.Deep.QuietTactic
import Derived.BigQuiet
import Derived.Maps.AppendAt
import Derived.Test.YtiljokmkiolpgaaGreatDoorProg
import Derived.Lib.Strings
import Derived.Test.YtiljokmkiolpgaaGreatDoorJ4
import Derived.Test.YtiljokmkiolpgaaGreatDoorJ10
import Derived.Test.YtiljokmkiolpgaaGreatDoorJ1
namespace Go.Proofs.YtiljokmkiolpgaaGreatDoor
open Go.RowKit
set_option maxRecDepth 100000
theorem run_str {w : World} {a : Option Addr} {n cap : Nat} {l : List UInt8} (h : Rd w (.slice a n cap) (bytesV l)) :
  (convert 22 9 (.slice a n cap)).run Tryz.prog w = .ok (.string ⟨l.toArray⟩) w := run_strB (Rd_to_byte h)
theorem bytesOf_map (l : List UInt8) : Lib.bytesOf (l.map fun x => (x.toNat : Int)) = l := by
 unfold Lib.bytesOf
 rw [List.map_map]
 conv => rhs; rw [← List.map_id l]
 refine List.map_congr_left fun x _ => ?_
 simp
theorem IndexByte_rd (a : Option Addr) (n cap : Nat) (l : List UInt8) (w : World) (h : Rd w (.slice a n cap) (bytesV l)) :
  Calls Tryz.prog 91 #[.slice a n cap, .int .u8 0] w fun e w' => e = .returned (.int .i64 (Lib.indexByte l 0)) ∧ w' = w := by
 obtain ⟨a', n', cap', he, hn, hnc, hcm, hx⟩ := h
 cases he
 rw [bytesV_length] at hn
 subst hn
 cases a with
 | none =>
  have hnil : l = [] := by
   cases l with
   | nil => rfl
   | cons x r => obtain ⟨b, off, h, _⟩ := hx (by simp [bytesV]); cases h
  subst hnil
  clear hx hnc hcm
  go_enter Tryz.func91, Tryz.ntmps91
  go_wp2
  rw [run_callFunc_extern Tryz.func108 (by kernel_rfl) (by kernel_rfl) (by kernel_rfl) (e := Extern.BytealgIndexByte.indexByte) (by kernel_rfl), Lib.run_indexByteNil w _ cap 0]
  simp only [Result.andThen]
  rw [Oper.upon_value]
  go_wp2
  go_ret
  exact ⟨rfl, rfl⟩
 | some ad =>
  have := Tryz.bytes_IndexByte_at ad l.length cap (l.map fun x => (x.toNat : Int)) 0 w (by simp) (fun i hi => by
   obtain ⟨b, off, h, hcell⟩ := hx (by intro e; have := congrArg List.length e; rw [bytesV_length] at this; rw [this] at hi; exact absurd hi (by simp))
   cases h
   rw [Addr_add, hcell i (by rw [bytesV_length]; exact hi), bytesV_get l i hi]
   simp [List.getD_eq_getElem?_getD, hi])
  rw [bytesOf_map] at this
  exact this
theorem Text_cur (b : Nat) (s : CS) (most : Int) (w : World) (h : CurB w b s) :
  Calls Tryz.prog 51 #[.pointer (some ⟨b, 0, none⟩), .int .i64 most] w fun e w' => e = .returned (.string ⟨(textL s most).toArray⟩) ∧ CurB w' b (textS s most) ∧ Chg [b] w w' := by
 have H := hY h
 clear h
 by_cases hf : s.failed = true
 ·have HT : Hid (textOk s most = false) := hY (by simp [textOk, hf])
  have HF := hY hf
  clear hf
  go_enter Tryz.func51, Tryz.ntmps51
  go_wp2_with fail
  refine (well_cur b s true w H.out).mono ?_
  rintro e w1 ⟨rfl, hcx, hch⟩
  rw [HF.out]
  have HC := hY hcx
  have HH := hY hch
  clear hcx hch
  go_wp2
  go_ret
  refine ⟨by unfold textL; rw [HT.out]; rfl, by unfold textS; rw [HT.out]; rw [failS_of HF.out]; exact HC.out, HH.out⟩
 ·have HF : Hid (s.failed = false) := hY (by simpa using hf)
  clear hf
  go_enter Tryz.func51, Tryz.ntmps51
  go_wp2_with fail
  refine (well_cur b s true w H.out).mono ?_
  rintro e w1 ⟨rfl, hcx, hch⟩
  rw [HF.out]
  replace hcx : CurB w1 b s := hcx
  have HC := hY hcx
  have HH := hY hch
  clear H
  obtain ⟨a, n, cap, hb, rfl, h2, h3, h4, h5, h6⟩ := hcx
  have hc0 : w1.drew.cell? ⟨b, 0, none⟩ = _ := cell_of_heap hb 0
  have hc1 : w1.drew.cell? ⟨b, 1, none⟩ = _ := cell_of_heap hb 1
  simp at hc0 hc1
  have HRD : Hid (∀ a', (s.at_ = s.l.length ∨ ∃ d off, a = some ⟨d, off, none⟩ ∧ a' = some ⟨d, off + s.at_, none⟩) → Rd w1.drew (.slice a' (s.l.length - s.at_) (cap - s.at_)) (bytesV (s.l.drop s.at_))) := hY (by
   intro a' h
   have e : (bytesV (s.l.drop s.at_)).length = s.l.length - s.at_ := by simp [bytesV]
   refine ⟨_, _, _, rfl, e.symm, by omega, by omega, fun hne => ?_⟩
   have hpos : 0 < s.l.length - s.at_ := by rw [← e]; exact List.length_pos_iff.2 hne
   rcases h with h | ⟨d, off, rfl, rfl⟩
   ·omega
   ·refine ⟨d, _, rfl, fun j hj => ?_⟩
    rw [e] at hj
    have hl0 : 0 < s.l.length := by omega
    have hl1 : s.at_ + j < s.l.length := by omega
    obtain ⟨d', off', c, ha, hdb, hd', hc'⟩ := h6 hl0
    cases ha
    have := hc' (s.at_ + j) hl1
    rw [Nat.add_assoc, bytesV_get _ _ (by simp; omega)]
    show w1.cell? _ = _
    rw [this]
    simp [List.getD_eq_getElem?_getD])
  have HA : Hid (s.at_ < s.l.length → ∃ d off, a = some ⟨d, off, none⟩) := hY (fun h => by obtain ⟨d, off, _, ha, _⟩ := h6 (by omega); exact ⟨d, off, ha⟩)
  clear hb hch h6
  have hdec : decide ((s.at_ : Int) ≤ s.l.length) = true := by rw [decide_eq_true_iff]; omega
  by_cases hlt : s.at_ < s.l.length
  ·obtain ⟨d, off, rfl⟩ := HA.out hlt
   have hne : ¬ (s.l.length - s.at_ = 0) := by omega
   have hne2 : ¬ (cap - s.at_ = 0) := by omega
   go_wp2_with fail
   refine wp_region_still_tail 9 (by kernel_rfl) (by kernel_rfl) ?_
   simp only [List.take_succ_cons, List.take_zero, List.drop_succ_cons, List.drop_zero]
   change wpStill _ _ w1.drew _ _ _
   repeat still_step
   refine wpStill_nil ?_
   change wpList _ _ _ _ _ w1.drew
   go_wp2_with fail
   refine (IndexByte_rd _ _ _ (s.l.drop s.at_) w1.drew (HRD.out _ (.inr ⟨_, _, rfl, rfl⟩))).mono ?_
   rintro e w2 ⟨rfl, rfl⟩
   have HC2 : Hid (CurB w1.drew b s) := HC
   have HH2 : Hid (Chg [b] w w1.drew) := hY HH.out.drew
   have hzz : zeroAt s = Lib.indexByte (s.l.drop s.at_) 0 := rfl
   have hz1 := indexByte_lt (s.l.drop s.at_) 0
   rw [← hzz, List.length_drop] at hz1
   rw [← hzz]
   obtain ⟨z, hz⟩ : ∃ z, z = zeroAt s := ⟨_, rfl⟩
   rw [← hz] at hz1 ⊢
   have HZ := hY hz
   have HF2 := HF
   clear HC HH HRD HA hc0 hc1 hzz hz HF
   by_cases hz0 : 0 ≤ z
   ·have d1 : decide (0 ≤ z) = true := by simpa using hz0
    by_cases hzm : z ≤ most
    ·have d2 : decide (z ≤ most) = true := by simpa using hzm
     have HT : Hid (textOk s most = true) := hY (by unfold textOk; rw [HF2.out, ← HZ.out, d1, d2]; rfl)
     have hwr : IntKind.i64.wrap (z + 1) = z + 1 := by rw [IntKind.wrap_i64]; omega
     have hcan : canTake s (z + 1) = true := canTake_of HF2.out (by omega) (by omega)
     have HCAN := hY hcan
     clear hcan
     go_wp2_with fail
     refine (well_cur b s true _ HC2.out).mono ?_
     rintro e w3 ⟨rfl, hcx, hch⟩
     rw [HF2.out]
     replace hcx : CurB w3 b s := hcx
     have HC3 := hY hcx
     have HH3 := hY (HH2.out.same hch)
     clear hcx hch HC2 HH2
     go_wp2_with fail
     refine (take_cur b s (z + 1) w3 HC3.out).mono ?_
     rintro e w4 ⟨v, rfl, hcx, hrd, hch⟩
     obtain ⟨k, rfl⟩ : ∃ k : Nat, z = k := ⟨z.toNat, by omega⟩
     have hlen : (takeL s ((k : Int) + 1)).length = k + 1 := by
      have := takeL_length HC3.out.at_le HCAN.out
      rw [this]; omega
     have HTL : Hid ((takeL s ((k : Int) + 1)).take k = textL s most) := hY (by
      unfold textL; rw [HT.out, if_pos rfl, ← HZ.out, takeL_list HCAN.out]
      simp [List.take_take])
     have HTS : Hid (takeS s ((k : Int) + 1) = textS s most) := hY (by
      unfold textS takeS; rw [HT.out, HCAN.out, if_pos rfl, if_pos rfl, ← HZ.out]
      simp [HF2.out]; omega)
     rw [HTS.out] at hcx
     have HC4 := hY hcx
     have HH4 := hY (HH3.out.same hch)
     obtain ⟨a', n', cap', rfl, hn', hnc', hcm', hx'⟩ := id hrd
     rw [bytesV_length, hlen] at hn'
     subst hn'
     have hst := run_str (Rd_takeG hrd (k := k) (by omega))
     rw [HTL.out] at hst
     clear hcx hch hrd hx' HC3 HH3 hlen
     go_wp2
     go_ret
     exact ⟨rfl, HC4.out, HH4.out⟩
    ·have d2 : decide (z ≤ most) = false := by simpa using hzm
     have HT : Hid (textOk s most = false) := hY (by unfold textOk; rw [← HZ.out, d2]; simp)
     go_wp2_with fail
     refine (well_cur b s false _ HC2.out).mono ?_
     rintro e w3 ⟨rfl, hcx, hch⟩
     simp only [Bool.false_and]
     replace hcx : CurB w3 b (failS s) := hcx
     have HC3 := hY hcx
     have HH3 := hY hch
     clear hcx hch
     go_wp2
     go_ret
     refine ⟨by unfold textL; rw [HT.out]; rfl, by unfold textS; rw [HT.out]; exact HC3.out, HH2.out.same HH3.out⟩
   ·have d1 : decide (0 ≤ z) = false := by simpa using hz0
    have HT : Hid (textOk s most = false) := hY (by unfold textOk; rw [← HZ.out, d1]; simp)
    go_wp2_with fail
    refine (well_cur b s false _ HC2.out).mono ?_
    rintro e w3 ⟨rfl, hcx, hch⟩
    simp only [Bool.false_and]
    replace hcx : CurB w3 b (failS s) := hcx
    have HC3 := hY hcx
    have HH3 := hY hch
    clear hcx hch
    go_wp2
    go_ret
    refine ⟨by unfold textL; rw [HT.out]; rfl, by unfold textS; rw [HT.out]; exact HC3.out, HH2.out.same HH3.out⟩
  ·have hat : s.at_ = s.l.length := by omega
   have HZ : Hid (zeroAt s = -1) := hY (by unfold zeroAt; rw [hat, List.drop_length]; rfl)
   have HT : Hid (textOk s most = false) := hY (by unfold textOk; rw [HZ.out]; simp)
   have HRD0 : Hid (∀ a' c, c ≤ maxLen → Rd w1.drew (.slice a' 0 c) (bytesV (s.l.drop s.at_))) := hY (fun a' c h => by
    rw [hat, List.drop_length]; exact ⟨_, _, _, rfl, rfl, Nat.zero_le _, h, fun h => absurd rfl h⟩)
   have HZ2 : Hid (Lib.indexByte (s.l.drop s.at_) 0 = -1) := HZ
   go_wp2_with fail
   refine wp_region_still_tail 9 (by kernel_rfl) (by kernel_rfl) ?_
   simp only [List.take_succ_cons, List.take_zero, List.drop_succ_cons, List.drop_zero]
   change wpStill _ _ w1.drew _ _ _
   repeat still_step
   refine wpStill_nil ?_
   change wpList _ _ _ _ _ w1.drew
   go_wp2_with fail
   all_goals
    refine (IndexByte_rd _ _ _ (s.l.drop s.at_) w1.drew (HRD0.out _ _ (by omega))).mono ?_
    rintro e w2 ⟨rfl, rfl⟩
    rw [HZ2.out]
    have HC2 : Hid (CurB w1.drew b s) := HC
    have HH2 : Hid (Chg [b] w w1.drew) := hY HH.out.drew
    clear HC HH HRD HRD0 HA
    go_wp2_with fail
    refine (well_cur b s false _ HC2.out).mono ?_
    rintro e w3 ⟨rfl, hcx, hch⟩
    simp only [Bool.false_and]
    replace hcx : CurB w3 b (failS s) := hcx
    have HC3 := hY hcx
    have HH3 := hY hch
    clear hcx hch
    go_wp2
    go_ret
    refine ⟨by unfold textL; rw [HT.out]; rfl, by unfold textS; rw [HT.out]; exact HC3.out, HH2.out.same HH3.out⟩
def cutZ (l : List UInt8) : List UInt8 := if 0 ≤ Lib.indexByte l 0 then l.take (Lib.indexByte l 0).toNat else l
theorem owned_frame {w w' : World} {base : Nat} {e : TypeId} {size : Nat} {v : Value} {n : Nat} {xs : List Value} (h : w.ownsRow base e size v n xs) {S : List Nat} (k : Chg S w w') (hn : ∀ b, v.ownBlock = some b → b ∉ S) : w'.ownsRow base e size v n xs := by
 refine ⟨h.1, ?_⟩
 rcases h.2 with hn' | ⟨g, cap, cur, rfl, hb, hgg, rest⟩
 ·exact .inl hn'
 ·exact .inr ⟨g, cap, cur, rfl, hb, k.heap hgg (hn g rfl), rest⟩
theorem owned_base {w : World} {base base' : Nat} {e : TypeId} {size : Nat} {v : Value} {n : Nat} {xs : List Value} (h : w.ownsRow base e size v n xs) (hb : base' ≤ base) : w.ownsRow base' e size v n xs := by
 refine ⟨h.1, ?_⟩
 rcases h.2 with hn' | ⟨g, cap, cur, rfl, hb', hgg, rest⟩
 ·exact .inl hn'
 ·exact .inr ⟨g, cap, cur, rfl, by omega, hgg, rest⟩
theorem foldl_push (ns : List Int) (s : ByteArray) : ns.foldl (fun r n => r.push (UInt8.ofNat n.toNat)) s = ⟨s.data ++ (ns.map fun n => UInt8.ofNat n.toNat).toArray⟩ := by
 induction ns generalizing s with
 | nil => simp
 | cons n r ih => simp only [List.foldl_cons, ih]; simp [ByteArray.push]
def Buf (w : World) (base : Nat) (v : Value) (l : List UInt8) : Prop := w.ownsRow base 5 1 v l.length (bytesV l)
theorem Buf.nil (w : World) (base : Nat) : Buf w base (.slice none 0 0) [] := World.ownsRow_nil w base 5 1
theorem Buf.frame {w w' : World} {base : Nat} {v : Value} {l : List UInt8} (h : Buf w base v l) {S : List Nat} (k : Chg S w w') (hn : ∀ b, v.ownBlock = some b → b ∉ S) : Buf w' base v l := owned_frame h k hn
theorem Buf.pure {w w' : World} {base : Nat} {v : Value} {l : List UInt8} (h : Buf w base v l) (k : Chg [] w w') : Buf w' base v l := h.frame k (fun _ _ hm => by cases hm)
theorem Buf.rd {w : World} {base : Nat} {v : Value} {l : List UInt8} (h : Buf w base v l) : Rd w v (bytesV l) := Rd.owned h
structure Two (w : World) (base : Nat) (v1 : Value) (l1 : List UInt8) (v2 : Value) (l2 : List UInt8) : Prop where
 one : Buf w base v1 l1
 two : Buf w base v2 l2
 ne : ∀ k, v1.ownBlock = some k → v2.ownBlock ≠ some k
section
variable {w w' : World} {base : Nat} {v1 v2 : Value} {l1 l2 : List UInt8}
theorem Two.pure (h : Two w base v1 l1 v2 l2) (k : Chg [] w w') : Two w' base v1 l1 v2 l2 := ⟨h.one.pure k, h.two.pure k, h.ne⟩
end
structure Curs (w0 w : World) (cs : List (Nat × CS)) : Prop where
 env : Env w
 chg : Chg [] w0 w
 all : ∀ p ∈ cs, w0.heap.size ≤ p.1 ∧ CurB w p.1 p.2
 nodup : (cs.map (·.1)).Nodup
theorem Curs.pure {w0 w w' : World} {cs : List (Nat × CS)} (h : Curs w0 w cs) (k : Chg [] w w') : Curs w0 w' cs :=
 ⟨h.env.frame k (by simp), h.chg.then k, fun p hp => ⟨(h.all p hp).1, (h.all p hp).2.frame k⟩, h.nodup⟩
theorem Curs.dr {w0 w w' : World} {cs : List (Nat × CS)} (h : Curs w0 w cs) (k : Dr w w') : Curs w0 w' cs := h.pure ((Chg.refl [] _).dr k)
theorem Curs.alloc {w0 w : World} {cs : List (Nat × CS)} (h : Curs w0 w cs) (o : Obj) : Curs w0 (w.alloc o) cs := h.pure ((Chg.refl [] _).alloc o)
theorem Curs.new {w0 w w' : World} {cs : List (Nat × CS)} {b : Nat} {s : CS} (h : Curs w0 w cs) (k : Chg [] w w') (hb : CurB w' b s) (hn : w.heap.size ≤ b) : Curs w0 w' ((b, s) :: cs) := by
 have h' := h.pure k
 refine ⟨h'.env, h'.chg, fun p hp => ?_, ?_⟩
 ·cases hp with
  | head => exact ⟨Nat.le_trans h.chg.size hn, hb⟩
  | tail _ hp => exact h'.all p hp
 ·rw [List.map_cons, List.nodup_cons]
  refine ⟨fun hm => ?_, h.nodup⟩
  obtain ⟨p, hp, he⟩ := List.mem_map.1 hm
  have := (h.all p hp).2.lt
  have he' : p.1 = b := he
  omega
theorem Curs.cur {w0 w : World} {cs : List (Nat × CS)} {b : Nat} {s : CS} (h : Curs w0 w ((b, s) :: cs)) : CurB w b s := (h.all (b, s) (List.mem_cons_self ..)).2
theorem Curs.tail {w0 w : World} {cs : List (Nat × CS)} {p : Nat × CS} (h : Curs w0 w (p :: cs)) : Curs w0 w cs :=
 ⟨h.env, h.chg, fun q hq => h.all q (List.mem_cons_of_mem _ hq), (List.nodup_cons.1 h.nodup).2⟩
set_option maxRecDepth 100000
theorem CurB.far {w w' : World} {b : Nat} {s : CS} (h : CurB w b s) {S : List Nat} (k : Chg S w w') (hS : ∀ i ∈ S, b < i) : CurB w' b s := by
 obtain ⟨a, n, cap, hb, h1, h2, h3, h4, h5, h6⟩ := h
 refine ⟨a, n, cap, k.heap hb (fun hm => by have := hS b hm; omega), h1, h2, h3, h4, h5, fun hn => ?_⟩
 obtain ⟨d, off, c, ha, hdb, hd, hc⟩ := h6 hn
 have hdS : d ∉ S := fun hm => by have := hS d hm; omega
 exact ⟨d, off, c, ha, hdb, k.heap hd hdS, fun j hj => k.cell (hc j hj) hdS⟩
theorem Curs.far {w0 w w' : World} {cs : List (Nat × CS)} (h : Curs w0 w cs) {S : List Nat} (k : Chg S w w') (hS : ∀ i ∈ S, w0.heap.size ≤ i ∧ 1 < i ∧ ∀ p ∈ cs, p.1 < i) : Curs w0 w' cs :=
 ⟨h.env.frame k (fun hm => by have := (hS _ hm).2.1; omega), h.chg.trans k (fun i hm hi => by have := (hS _ hm).1; omega), fun p hp => ⟨(h.all p hp).1, (h.all p hp).2.far k (fun i hi => (hS i hi).2.2 p hp)⟩, h.nodup⟩
structure Sec where
 name : ByteArray
 seg : ByteArray
 addr : Int
 size : Int
 off : Int
 kind : Int
def Sec.cells (s : Sec) : List Value := [.string s.name, .string s.seg, .int .u64 s.addr, .int .u64 s.size, .int .u64 s.off, .int .i64 s.kind]
abbrev Sec.v (s : Sec) : Value := .agg #[.string s.name, .string s.seg, .int .u64 s.addr, .int .u64 s.size, .int .u64 s.off, .int .i64 s.kind]
def Sec.wf (s : Sec) : Prop := (Lit.int .u64 s.addr).wf = true ∧ (Lit.int .u64 s.size).wf = true ∧ (Lit.int .u64 s.off).wf = true ∧ (Lit.int .i64 s.kind).wf = true
def Sec.zero : Sec := ⟨⟨#[]⟩, ⟨#[]⟩, 0, 0, 0, 0⟩
def secL : Lay Sec := ⟨6, Sec.cells, Sec.zero, fun _ => rfl, by decide, fun x u hu => by
 simp only [Sec.cells, List.mem_cons, List.not_mem_nil, or_false] at hu
 rcases hu with rfl | rfl | rfl | rfl | rfl | rfl <;> rfl⟩
theorem Sec.at {w : World} {b o : Nat} {s : Sec} (h : secL.In w b o s) : w.cell? ⟨b, o, none⟩ = some (.string s.name) ∧ w.cell? ⟨b, o + 1, none⟩ = some (.string s.seg) ∧ w.cell? ⟨b, o + 2, none⟩ = some (.int .u64 s.addr) ∧ w.cell? ⟨b, o + 3, none⟩ = some (.int .u64 s.size) ∧ w.cell? ⟨b, o + 4, none⟩ = some (.int .u64 s.off) ∧ w.cell? ⟨b, o + 5, none⟩ = some (.int .i64 s.kind) :=
 ⟨h 0 (by decide), h 1 (by decide), h 2 (by decide), h 3 (by decide), h 4 (by decide), h 5 (by decide)⟩
theorem Sec.box (w : World) (s : Sec) (T : TypeId) : secL.Box (w.alloc (.cells #[.string s.name, .string s.seg, .int .u64 s.addr, .int .u64 s.size, .int .u64 s.off, .int .i64 s.kind] T)) w.heap.size s := Lay.Box.of_alloc (L := secL) w s T
theorem Sec.set_name {w : World} {g : Nat} {s : Sec} (h : secL.Box w g s) (x : ByteArray) : secL.Box (w.setCell ⟨g, 0, none⟩ (.string x)) g { s with name := x } := Lay.Box.set h 0 _ _ rfl
theorem Sec.c_seg {w : World} {b : Nat} {s : Sec} (h : secL.Box w b s) : w.cell? ⟨b, 1, none⟩ = some (.string s.seg) := by have := h.in 1 (by decide); rw [Nat.zero_add] at this; exact this
theorem Sec.c_addr {w : World} {b : Nat} {s : Sec} (h : secL.Box w b s) : w.cell? ⟨b, 2, none⟩ = some (.int .u64 s.addr) := by have := h.in 2 (by decide); rw [Nat.zero_add] at this; exact this
theorem Sec.c_size {w : World} {b : Nat} {s : Sec} (h : secL.Box w b s) : w.cell? ⟨b, 3, none⟩ = some (.int .u64 s.size) := by have := h.in 3 (by decide); rw [Nat.zero_add] at this; exact this
theorem Sec.c_off {w : World} {b : Nat} {s : Sec} (h : secL.Box w b s) : w.cell? ⟨b, 4, none⟩ = some (.int .u64 s.off) := by have := h.in 4 (by decide); rw [Nat.zero_add] at this; exact this
theorem Sec.c_kind {w : World} {b : Nat} {s : Sec} (h : secL.Box w b s) : w.cell? ⟨b, 5, none⟩ = some (.int .i64 s.kind) := by have := h.in 5 (by decide); rw [Nat.zero_add] at this; exact this
def n8 (l : List UInt8) (p : Nat) : Nat := leNum ((l.drop p).take 8)
theorem n8_lt (l : List UInt8) (p : Nat) : n8 l p < 18446744073709551616 := by
 have h := leNum_lt ((l.drop p).take 8)
 have h2 : ((l.drop p).take 8).length ≤ 8 := by rw [List.length_take]; omega
 have h3 : 256 ^ ((l.drop p).take 8).length ≤ 256 ^ 8 := Nat.pow_le_pow_right (by decide) h2
 unfold n8
 omega
def tx (l : List UInt8) (p : Nat) : ByteArray := ⟨(cutZ ((l.drop p).take 16)).toArray⟩
abbrev cAt (l : List UInt8) (p : Nat) : CS := ⟨l, p, false, false⟩
structure CAt (w : World) (b : Nat) (l : List UInt8) (p : Nat) : Prop where
 cur : CurB w b (cAt l p)
def secAt (l : List UInt8) (p : Nat) : Sec := ⟨tx l p, tx l (p + 16), n8 l (p + 32), n8 l (p + 40), n4 l (p + 48), ((n4 l (p + 64) % 256 : Nat) : Int)⟩
theorem Tryz.tSec : Lay.Ty secL Tryz.prog 157 := Lay.Ty.mk' (by kernel_rfl) (by kernel_rfl)
def opE (l : List UInt8) : Int := if l.length < 8 then 3 else if (l.length : Int) < leastF (n4 l 0) then 3 else 0
theorem opE_len {l : List UInt8} (h : opE l = 0) : 8 ≤ l.length ∧ leastF (n4 l 0) ≤ l.length := by
 unfold opE at h
 by_cases h8 : l.length < 8
 ·rw [if_pos h8] at h; exact absurd h (by decide)
 ·rw [if_neg h8] at h
  by_cases h9 : (l.length : Int) < leastF (n4 l 0)
  ·rw [if_pos h9] at h; exact absurd h (by decide)
  ·omega
def secsN (l : List UInt8) (k : Nat) : List Sec := (List.range k).map fun i => secAt l (72 + 80 * i)
theorem secsN_len (l : List UInt8) (k : Nat) : (secsN l k).length = k := by simp [secsN]
theorem secsN_succ (l : List UInt8) (k : Nat) : secsN l (k + 1) = secsN l k ++ [secAt l (72 + 80 * k)] := by simp [secsN, List.range_succ]
def sgFine (l : List UInt8) (k : Nat) : Bool := decide (n4 l 60 ≤ 7) && (secsN l k).all fun x => decide (x.seg = tx l 8)
theorem sgFine_succ (l : List UInt8) (k : Nat) : sgFine l (k + 1) = (sgFine l k && decide ((secAt l (72 + 80 * k)).seg = tx l 8)) := by
 unfold sgFine
 rw [secsN_succ, List.all_append]
 simp [Bool.and_assoc]
def segE (l : List UInt8) : Int :=
 if ¬ opE l = 0 then 3 else if n4 l 0 ≠ 25 then 7 else if l.length < 72 + 80 * n4 l 64 then 3 else if sgFine l (n4 l 64) = false then 9 else if 64 < n4 l 64 then 11 else 0
def segX (l : List UInt8) (s : SlV) : Seg := ⟨tx l 8, n8 l 24, n8 l 32, n8 l 40, n8 l 48, n4 l 60, s⟩
theorem Tryz.tSg : Lay.Ty segL Tryz.prog 73 := Lay.Ty.mk' (by kernel_rfl) (by kernel_rfl)
theorem Tryz.infoSec : Lay.Info Tryz.prog 71 157 secL.n 64 := Lay.Info.mk' (z := .agg (secL.f secL.d).toArray) (by kernel_rfl) (by kernel_rfl) rfl
theorem sec_built (x : Sec) (w : World) : (Instr.buildSlice 71 1 #[(0, secL.val x)]).run Tryz.prog w = .ok (.slice (some ⟨w.heap.size, 0, none⟩) 1 1) (w.alloc (.cells (secL.f x).toArray 157)) := by
 show (Instr.buildSlice 71 1 #[(0, .agg #[.string x.name, .string x.seg, .int .u64 x.addr, .int .u64 x.size, .int .u64 x.off, .int .i64 x.kind])]).run Tryz.prog w = .ok (.slice (some ⟨w.heap.size, 0, none⟩) 1 1) (w.alloc (.cells #[.string x.name, .string x.seg, .int .u64 x.addr, .int .u64 x.size, .int .u64 x.off, .int .i64 x.kind] 157))
 go_simp
structure SgR (w0 : World) (B ba c bs : Nat) (l : List UInt8) (x : Seg) (p : Nat) (ks : List Sec) (wr : World) : Prop where
 cur : CurB wr c (cAt l p)
 bx : segL.Box wr bs x
 bf : secL.Buf 157 wr B (.slice x.secs.a x.secs.n x.secs.cap) ks
 ra : segL.Box wr ba segL.d
 sz : B ≤ wr.heap.size
 chg : Chg [] w0 wr
theorem SgR.step {w0 : World} {B ba c bs : Nat} {l : List UInt8} {x : Seg} {p q : Nat} {ks : List Sec} {w w' : World} (h : SgR w0 B ba c bs l x p ks w) (hc : CurB w' c (cAt l q)) (k : Chg [c] w w') (h1 : ba < c) (h2 : c < bs) (h3 : bs < B) (h0 : w0.heap.size ≤ ba) : SgR w0 B ba c bs l x q ks w' :=
 ⟨hc, h.bx.frameS k (by simp; omega), h.bf.frame k (fun b hb hm => by have := (h.bf.lt b hb).1; simp at hm; omega), h.ra.frameS k (by simp; omega), Nat.le_trans h.sz k.size, h.chg.new k (by omega)⟩
theorem SgR.pure {w0 : World} {B ba c bs : Nat} {l : List UInt8} {x : Seg} {p : Nat} {ks : List Sec} {w w' : World} (h : SgR w0 B ba c bs l x p ks w) (k : Chg [] w w') : SgR w0 B ba c bs l x p ks w' :=
 ⟨h.cur.frame k, h.bx.frame k, h.bf.pure k, h.ra.frame k, Nat.le_trans h.sz k.size, h.chg.then k⟩
theorem SgR.far {w0 : World} {B ba c bs g : Nat} {l : List UInt8} {x : Seg} {p : Nat} {ks : List Sec} {w w' : World} (h : SgR w0 B ba c bs l x p ks w) (k : Chg [g] w w') (hg : w.heap.size ≤ g) (h1 : ba < c) (h2 : c < bs) (h3 : bs < B) (h0 : w0.heap.size ≤ ba) : SgR w0 B ba c bs l x p ks w' :=
 have hz := h.sz
 ⟨h.cur.far k (by simp; omega), h.bx.frameS k (by simp; omega), h.bf.frame k (fun b hb hm => by have := (h.bf.lt b hb).2; simp at hm; omega), h.ra.frameS k (by simp; omega), Nat.le_trans h.sz k.size, h.chg.new k (by omega)⟩
structure SgG (w0 : World) (B ba c bs : Nat) (l : List UInt8) (x : Seg) (p : Nat) (wr : World) : Prop where
 cur : CurB wr c (cAt l p)
 bx : segL.Box wr bs x
 ra : segL.Box wr ba segL.d
 sz : B ≤ wr.heap.size
 chg : Chg [] w0 wr
theorem str_beq (a b : ByteArray) : (a.toList == b.toList) = decide (a = b) := by
 rw [Lib.toList_data, Lib.toList_data]
 by_cases h : a = b
 ·subst h; simp
 ·rw [decide_eq_false h, beq_eq_false_iff_ne]
  exact fun e => h (ByteArray.ext (Array.toList_inj.1 e))
def namedC (c : Int) : Bool := decide (c = 13 ∨ c = 12 ∨ c = 2147483672 ∨ c = 2147483679 ∨ c = 2147483683)
def nmI (l : List UInt8) : Int := Lib.indexByte (l.drop (n4 l 8)) 0
def nameE (l : List UInt8) : Int := if ¬ opE l = 0 then 3 else if namedC (n4 l 0) = false then 7 else if l.length < n4 l 8 then 10 else if 0 < nmI l ∧ nmI l ≤ 255 then 0 else 10
def nameV (l : List UInt8) : ByteArray := if nameE l = 0 then ⟨((l.drop (n4 l 8)).take (nmI l).toNat).toArray⟩ else ⟨#[]⟩
theorem namedC_or {c : Int} (h : namedC c = true) : c = 13 ∨ c = 12 ∨ c = 2147483672 ∨ c = 2147483679 ∨ c = 2147483683 := of_decide_eq_true h
theorem named_24 {c : Int} (h : namedC c = true) : leastF c = 24 := by
 rcases namedC_or h with rfl | rfl | rfl | rfl | rfl <;> decide
structure Spn where
 off : Int
 size : Int
def Spn.cells (s : Spn) : List Value := [.int .u64 s.off, .int .u64 s.size]
abbrev Spn.v (s : Spn) : Value := .agg #[.int .u64 s.off, .int .u64 s.size]
def Spn.wf (s : Spn) : Prop := (Lit.int .u64 s.off).wf = true ∧ (Lit.int .u64 s.size).wf = true
def Spn.zero : Spn := ⟨0, 0⟩
def spnL : Lay Spn := ⟨2, Spn.cells, Spn.zero, fun _ => rfl, by decide, fun x u hu => by
 simp only [Spn.cells, List.mem_cons, List.not_mem_nil, or_false] at hu
 rcases hu with rfl | rfl <;> rfl⟩
theorem Spn.at {w : World} {b o : Nat} {s : Spn} (h : spnL.In w b o s) : w.cell? ⟨b, o, none⟩ = some (.int .u64 s.off) ∧ w.cell? ⟨b, o + 1, none⟩ = some (.int .u64 s.size) :=
 ⟨h 0 (by decide), h 1 (by decide)⟩
theorem Spn.box (w : World) (s : Spn) (T : TypeId) : spnL.Box (w.alloc (.cells #[.int .u64 s.off, .int .u64 s.size] T)) w.heap.size s := Lay.Box.of_alloc (L := spnL) w s T
theorem Spn.c_size {w : World} {b : Nat} {s : Spn} (h : spnL.Box w b s) : w.cell? ⟨b, 1, none⟩ = some (.int .u64 s.size) := by have := h.in 1 (by decide); rw [Nat.zero_add] at this; exact this
def spAt (l : List UInt8) (i : Nat) : Spn := ⟨n4 l (8 + 8 * i), n4 l (12 + 8 * i)⟩
def spsN (l : List UInt8) (k : Nat) : List Spn := (List.range k).map (spAt l)
theorem spsN_len (l : List UInt8) (k : Nat) : (spsN l k).length = k := by simp [spsN]
theorem spsN_succ (l : List UInt8) (k : Nat) : spsN l (k + 1) = spsN l k ++ [spAt l k] := by simp [spsN, List.range_succ]
theorem Tryz.tSpn : Lay.Ty spnL Tryz.prog 30 := Lay.Ty.mk' (by kernel_rfl) (by kernel_rfl)
theorem Tryz.infoSpn : Lay.Info Tryz.prog 107 30 spnL.n 16 := Lay.Info.mk' (z := .agg (spnL.f spnL.d).toArray) (by kernel_rfl) (by kernel_rfl) rfl
theorem spn_built (x : Spn) (w : World) : (Instr.buildSlice 107 1 #[(0, spnL.val x)]).run Tryz.prog w = .ok (.slice (some ⟨w.heap.size, 0, none⟩) 1 1) (w.alloc (.cells (spnL.f x).toArray 30)) := by
 show (Instr.buildSlice 107 1 #[(0, .agg #[.int .u64 x.off, .int .u64 x.size])]).run Tryz.prog w = .ok (.slice (some ⟨w.heap.size, 0, none⟩) 1 1) (w.alloc (.cells #[.int .u64 x.off, .int .u64 x.size] 30))
 go_simp
structure SpR (w0 : World) (c : Nat) (l : List UInt8) (p : Nat) (ks : List Spn) (sv : SlV) (wr : World) : Prop where
 cur : CurB wr c (cAt l p)
 bf : spnL.Buf 30 wr w0.heap.size (.slice sv.a sv.n sv.cap) ks
 sz : w0.heap.size ≤ wr.heap.size
 chg : Chg [c] w0 wr
theorem SpR.step {w0 : World} {c : Nat} {l : List UInt8} {p q : Nat} {ks : List Spn} {sv : SlV} {w w' : World} (h : SpR w0 c l p ks sv w) (hc : CurB w' c (cAt l q)) (k : Chg [c] w w') (hcw : c < w0.heap.size) : SpR w0 c l q ks sv w' :=
 ⟨hc, h.bf.frame k (fun b hb hm => by have := (h.bf.lt b hb).1; simp at hm; omega), Nat.le_trans h.sz k.size, h.chg.same k⟩
theorem SpR.pure {w0 : World} {c : Nat} {l : List UInt8} {p : Nat} {ks : List Spn} {sv : SlV} {w w' : World} (h : SpR w0 c l p ks sv w) (k : Chg [] w w') : SpR w0 c l p ks sv w' :=
 ⟨h.cur.frame k, h.bf.pure k, Nat.le_trans h.sz k.size, h.chg.then k⟩
def SpP (w : World) (ls : List Spn) (e : Ending) (w' : World) : Prop := ∃ sv : SlV, e = .returned (.tuple #[.slice sv.a sv.n sv.cap, .int .i64 0]) ∧ spnL.Buf 30 w' w.heap.size (.slice sv.a sv.n sv.cap) ls ∧ Chg [] w w'
structure Dep where
 name : ByteArray
 kind : Int
def Dep.cells (s : Dep) : List Value := [.string s.name, .int .i64 s.kind]
abbrev Dep.v (s : Dep) : Value := .agg #[.string s.name, .int .i64 s.kind]
def Dep.wf (s : Dep) : Prop := (Lit.int .i64 s.kind).wf = true
def Dep.zero : Dep := ⟨⟨#[]⟩, 0⟩
def depL : Lay Dep := ⟨2, Dep.cells, Dep.zero, fun _ => rfl, by decide, fun x u hu => by
 simp only [Dep.cells, List.mem_cons, List.not_mem_nil, or_false] at hu
 rcases hu with rfl | rfl <;> rfl⟩
theorem Dep.at {w : World} {b o : Nat} {s : Dep} (h : depL.In w b o s) : w.cell? ⟨b, o, none⟩ = some (.string s.name) ∧ w.cell? ⟨b, o + 1, none⟩ = some (.int .i64 s.kind) :=
 ⟨h 0 (by decide), h 1 (by decide)⟩
theorem Dep.box (w : World) (s : Dep) (T : TypeId) : depL.Box (w.alloc (.cells #[.string s.name, .int .i64 s.kind] T)) w.heap.size s := Lay.Box.of_alloc (L := depL) w s T
theorem Dep.set_name {w : World} {g : Nat} {s : Dep} (h : depL.Box w g s) (x : ByteArray) : depL.Box (w.setCell ⟨g, 0, none⟩ (.string x)) g { s with name := x } := Lay.Box.set h 0 _ _ rfl
structure Tel where
 m : Img
 seen : Option Nat
 secs : Int
def Tel.cells (t : Tel) : List Value := t.m.cells ++ [.map t.seen, .int .i64 t.secs]
def Tel.zero : Tel := ⟨Img.zero, none, 0⟩
def telL : Lay Tel := ⟨26, Tel.cells, Tel.zero, fun _ => rfl, by decide, fun x u hu => by
 simp only [Tel.cells, List.mem_cons, List.mem_append, List.not_mem_nil, or_false] at hu
 rcases hu with h | rfl | rfl
 ·exact imgL.one x.m u h
 ·rfl
 ·rfl⟩
section
variable {w : World} {g : Nat} {t : Tel}
theorem Tel.cell (h : telL.Box w g t) (j : Nat) (u : Value) (hj : j < 26) (hu : t.cells[j]? = some u) : w.cell? ⟨g, j, none⟩ = some u := by
 have := h.in j hj
 rw [Nat.zero_add] at this
 rw [this]
 exact hu
theorem Tel.set_name (h : telL.Box w g t) (x : ByteArray) : telL.Box (w.setCell ⟨g, 3, none⟩ (.string x)) g { t with m := { t.m with name := x } } := Lay.Box.set h 3 _ _ rfl
theorem Tel.set_segs (h : telL.Box w g t) (x : SlV) : telL.Box (w.setCell ⟨g, 4, none⟩ (.slice x.a x.n x.cap)) g { t with m := { t.m with segs := x } } := Lay.Box.set h 4 _ _ rfl
theorem Tel.set_entry (h : telL.Box w g t) (x : Int) : telL.Box (w.setCell ⟨g, 22, none⟩ (.int .u64 x)) g { t with m := { t.m with entry := x } } := Lay.Box.set h 22 _ _ rfl
theorem Tel.set_has (h : telL.Box w g t) (x : Bool) : telL.Box (w.setCell ⟨g, 23, none⟩ (.bool x)) g { t with m := { t.m with has := x } } := Lay.Box.set h 23 _ _ rfl
end
structure SegP where
 s : Seg
 ks : List Sec
def SegP.zero : SegP := ⟨.zero, []⟩
def Seg.bare (s : Seg) : Seg := { s with secs := ⟨none, 0, 0⟩ }
def Img.bare (m : Img) : Img := { m with segs := ⟨none, 0, 0⟩, deps := ⟨none, 0, 0⟩ }
structure TP where
 m : Img
 segs : List SegP
 deps : List Dep
 seen : Int → Bool
 n : Nat
def SecsIn (w : World) (base : Nat) (xs : List Seg) (ps : List SegP) : Prop :=
 xs.length = ps.length ∧ ∀ i, i < xs.length → (xs.getD i .zero).bare = (ps.getD i .zero).s ∧ secL.Buf 157 w base (.slice (xs.getD i .zero).secs.a (xs.getD i .zero).secs.n (xs.getD i .zero).secs.cap) (ps.getD i .zero).ks
theorem SecsIn.nil (w : World) (base : Nat) : SecsIn w base [] [] := ⟨rfl, fun i h => absurd h (by simp)⟩
theorem rows_ne {α β : Type} {L : Lay α} {M : Lay β} {E F : TypeId} {w : World} {b c : Nat} {u v : Value} {xs : List α} {ys : List β} (h : L.Buf E w b u xs) (k : M.Buf F w c v ys) (hEF : E ≠ F) : ∀ j, u.ownBlock = some j → j ∉ v.ownBlock.toList := by
 intro j hj hm
 rcases h.2 with ⟨rfl, _⟩ | ⟨g, cap, cur, rfl, _, hg, _⟩
 ·cases hj
 ·rcases k.2 with ⟨rfl, _⟩ | ⟨g', cap', cur', rfl, _, hg', _⟩
  ·cases hm
  ·simp only [Value.ownBlock, Option.some.injEq, Option.toList_some, List.mem_singleton] at hj hm
   subst hj
   subst hm
   rw [hg] at hg'
   cases hg'
   exact hEF rfl
theorem SecsIn.frame {w w' : World} {base : Nat} {xs : List Seg} {ps : List SegP} (h : SecsIn w base xs ps) {S : List Nat} (k : Chg S w w') (hn : ∀ i, i < xs.length → ∀ b, (Value.slice (xs.getD i .zero).secs.a (xs.getD i .zero).secs.n (xs.getD i .zero).secs.cap).ownBlock = some b → b ∉ S) : SecsIn w' base xs ps :=
 ⟨h.1, fun i hi => ⟨(h.2 i hi).1, (h.2 i hi).2.frame k (hn i hi)⟩⟩
theorem SecsIn.low {w w' : World} {base : Nat} {xs : List Seg} {ps : List SegP} (h : SecsIn w base xs ps) {S : List Nat} (k : Chg S w w') (hn : ∀ i ∈ S, i < base) : SecsIn w' base xs ps :=
 h.frame k (fun i hi b hb hm => by have h1 := ((h.2 i hi).2.lt b hb).1; have h2 := hn b hm; omega)
theorem SecsIn.pure {w w' : World} {base : Nat} {xs : List Seg} {ps : List SegP} (h : SecsIn w base xs ps) (k : Chg [] w w') : SecsIn w' base xs ps := h.low k (by simp)
theorem SecsIn.apart {α : Type} {L : Lay α} {E : TypeId} {w w' : World} {base c : Nat} {xs : List Seg} {ps : List SegP} {v : Value} {ys : List α} (h : SecsIn w base xs ps) (hv : L.Buf E w c v ys) (hE : 157 ≠ E) (k : Chg v.ownBlock.toList w w') : SecsIn w' base xs ps :=
 h.frame k (fun i hi b hb => rows_ne (h.2 i hi).2 hv hE b hb)
theorem getD_snoc {α : Type} (l : List α) (x d : α) (i : Nat) : (l ++ [x]).getD i d = if i < l.length then l.getD i d else if i = l.length then x else d := by
 simp only [List.getD_eq_getElem?_getD]
 by_cases h : i < l.length
 ·rw [if_pos h, List.getElem?_append_left h]
 ·rw [if_neg h, List.getElem?_append_right (by omega)]
  by_cases h2 : i = l.length
  ·subst h2; simp
  ·rw [if_neg h2]
   have : ¬ i - l.length < 1 := by omega
   rw [List.getElem?_eq_none (by simp; omega)]
   rfl
theorem SecsIn.snoc {w : World} {base : Nat} {xs : List Seg} {ps : List SegP} (h : SecsIn w base xs ps) (x : Seg) (p : SegP) (h1 : x.bare = p.s) (h2 : secL.Buf 157 w base (.slice x.secs.a x.secs.n x.secs.cap) p.ks) : SecsIn w base (xs ++ [x]) (ps ++ [p]) := by
 refine ⟨by simp [h.1], fun i hi => ?_⟩
 rw [getD_snoc, getD_snoc, ← h.1]
 by_cases hl : i < xs.length
 ·rw [if_pos hl, if_pos hl]
  exact h.2 i hl
 ·have : i = xs.length := by simp at hi; omega
  rw [if_neg hl, if_neg hl, if_pos this, if_pos this]
  exact ⟨h1, h2⟩
def seenF (s : Int → Bool) : Int → Option Value := fun c => if s c then some (.agg #[.bool true]) else none
structure TInv (w1 : World) (base bt bs : Nat) (p : TP) (t : Tel) (xs : List Seg) (w : World) : Prop where
 box : telL.Box w bt t
 seen : t.seen = some bs
 secs : t.secs = p.n
 m : t.m.bare = p.m
 sg : segL.Buf 73 w base (.slice t.m.segs.a t.m.segs.n t.m.segs.cap) xs
 ks : SecsIn w base xs p.segs
 dp : depL.Buf 84 w base (.slice t.m.deps.a t.m.deps.n t.m.deps.cap) p.deps
 mp : Map.Is (Map.intK .u32) w bs (seenF p.seen)
 o1 : bs < base
 o2 : bt < base
 o3 : bs ≠ bt
 o4 : base ≤ w.heap.size
 o5 : w1.heap.size ≤ bs
 o6 : w1.heap.size ≤ bt
 l1 : p.segs.length ≤ 16
 l2 : p.deps.length ≤ 64
 l3 : p.n ≤ 64
 chg : Chg [] w1 w
section
variable {w1 w w' : World} {base bt bs : Nat} {p : TP} {t : Tel} {xs : List Seg}
theorem TInv.pure (h : TInv w1 base bt bs p t xs w) (k : Chg [] w w') : TInv w1 base bt bs p t xs w' :=
 ⟨h.box.frame k, h.seen, h.secs, h.m, h.sg.pure k, h.ks.pure k, h.dp.pure k, h.mp.frame k, h.o1, h.o2, h.o3, Nat.le_trans h.o4 k.size, h.o5, h.o6, h.l1, h.l2, h.l3, h.chg.then k⟩
end
end Go.Proofs.YtiljokmkiolpgaaGreatDoor
