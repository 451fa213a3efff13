/- Lemmas, laid together: part 5 of 42. Conditions: none but each lemma's own. -/
import Derived.Test.YtiljokmkiolpgaaGreatDoorJ1
import Derived.Test.YtiljokmkiolpgaaGreatDoorProg
import Derived.Test.YtiljokmkiolpgaaGreatDoorJ4
import Derived.Test.YtiljokmkiolpgaaGreatDoorJ2
import Derived.Lib.Strings
import Derived.Test.YtiljokmkiolpgaaGreatDoorJ3
import Derived.Deep.CutRange
import Derived.StillTailTactics
import Derived.Handy
namespace Go.Proofs.YtiljokmkiolpgaaGreatDoor
open Go.RowKit
set_option maxRecDepth 100000
theorem two_pow_le {m : Nat} (hm : m ≤ 63) : 1 ≤ 2 ^ m ∧ 2 ^ m ≤ 9223372036854775808 :=
 ⟨Nat.one_le_two_pow, Nat.le_trans (Nat.pow_le_pow_right (by decide) hm) (by decide)⟩
theorem wrap_pow {m : Nat} (hm : m ≤ 63) : IntKind.u64.wrap ((2 : Int) ^ m) = ((2 ^ m : Nat) : Int) := by
 have h := two_pow_le hm
 have e : (2 : Int) ^ m = ((2 ^ m : Nat) : Int) := by rw [Int.natCast_pow]; rfl
 rw [e]
 generalize 2 ^ m = p at h ⊢
 rw [IntKind.wrap_u64]; omega
theorem bits_eq (n f m : Nat) (hn : n < 18446744073709551616) (hm : m ≤ 63) :
  bits .and .u64 ((n : Int) / 2 ^ f) (IntKind.u64.wrap (IntKind.u64.wrap ((2 : Int) ^ m) - 1)) = ((n / 2 ^ f % 2 ^ m : Nat) : Int) := by
 have h := two_pow_le hm
 rw [wrap_pow hm]
 have e : (n : Int) / 2 ^ f = ((n / 2 ^ f : Nat) : Int) := by rw [Int.natCast_ediv, Int.natCast_pow]; rfl
 have hd : n / 2 ^ f < 18446744073709551616 := Nat.lt_of_le_of_lt (Nat.div_le_self _ _) hn
 rw [e, ← Nat.and_two_pow_sub_one_eq_mod]
 generalize n / 2 ^ f = d at hd ⊢
 generalize 2 ^ m = p at h ⊢
 have e2 : IntKind.u64.wrap ((p : Int) - 1) = ((p - 1 : Nat) : Int) := by rw [IntKind.wrap_u64]; omega
 rw [e2]
 exact u64_and_nat d (p - 1) hd (by omega)
theorem bits_any (n f m : Nat) (hn : n < 18446744073709551616) (hf : f ≤ 63) (hm : m ≤ 63) (w : World) :
  Calls Tryz.prog 73 #[.int .u64 n, .int .i64 f, .int .i64 m] w fun e w' => e = .returned (.int .u64 ((n / 2 ^ f % 2 ^ m : Nat) : Int)) ∧ Dr w w' := by
 have HE := hY (bits_eq n f m hn hm)
 go_enter Tryz.func73, Tryz.ntmps73
 go_wp2
 go_quiet (fail)
 rw [HE.out]
 go_wp2
 go_ret
 exact ⟨rfl, (Dr.refl _).drewN _⟩
theorem power_any (m : Nat) (hm : m ≤ 63) (w : World) :
  Calls Tryz.prog 65 #[.int .i64 m] w fun e w' => e = .returned (.int .u64 ((2 ^ m : Nat) : Int)) ∧ w = w' := by
 have HE := hY (wrap_pow hm)
 go_enter Tryz.func65, Tryz.ntmps65
 go_wp2
 rw [HE.out]
 go_ret
 exact ⟨rfl, rfl⟩
theorem refbits_any (n f m : Nat) (hn : n < 18446744073709551616) (hf : f ≤ 63) (hm : m ≤ 63) (w : World) :
  Calls Tryz.prog 62 #[.int .u64 n, .int .i64 f, .int .i64 m] w fun e w' => e = .returned (.int .u64 ((n / 2 ^ f % 2 ^ m : Nat) : Int)) ∧ Dr w w' := by
 have hp := two_pow_le hf
 have hq := two_pow_le hm
 have HP := hY (fun w => power_any f hf w)
 have HQ := hY (fun w => power_any m hm w)
 generalize 2 ^ f = p at *
 generalize 2 ^ m = q at *
 have hp0 : ¬ p = 0 := by omega
 have hq0 : ¬ q = 0 := by omega
 have hd : n / p < 18446744073709551616 := Nat.lt_of_le_of_lt (Nat.div_le_self _ _) hn
 have w1 : IntKind.u64.wrap ((n : Int) / (p : Int)) = ((n / p : Nat) : Int) := by
  rw [show (n : Int) / (p : Int) = ((n / p : Nat) : Int) from by rw [Int.natCast_ediv]]
  generalize n / p = d at hd ⊢
  rw [IntKind.wrap_u64]; omega
 have w2 : ((n / p : Nat) : Int) % (q : Int) = ((n / p % q : Nat) : Int) := by rw [Int.natCast_emod]
 clear hp hq hd
 go_enter Tryz.func62, Tryz.ntmps62
 go_wp2_with fail
 refine wp_region_noPanic ?_
 refine wp_region_held_drew (S := fun _ => True) (by kernel_rfl) trivial (fun hHeld => ?_)
 refine tkr 0 ?_ hHeld ?_ ?_
 rotate_left
 ·intro w hSw
  go_simp
  try with_reducible rfl
 try simp only [Act.put, aS, aZ, aC]
 refine tkr 1 ?_ hHeld ?_ ?_
 rotate_left
 ·intro w hSw
  go_simp
  try with_reducible rfl
 try simp only [Act.put, aS, aZ, aC]
 refine tkr 4 ?_ hHeld ?_ ?_
 rotate_left
 ·intro w hSw
  go_simp
  try with_reducible rfl
 try simp only [Act.put, aS, aZ, aC]
 refine wpAnyH_ready (rs := [2]) (by kernel_rfl) (by simp) ?_
 refine AllReadyH.cons rfl (fun K hK => ?_) AllReadyH.nil
 go_simp
 refine (HP.out _).mono ?_
 rintro e w1 ⟨rfl, rfl⟩
 refine hK.out _ _ trivial ?_
 clear hK hHeld K
 intro hHeld
 try (unfold Act.put; simp only [aS, aZ, aC])
 refine tkr 3 ?_ hHeld ?_ ?_
 rotate_left
 ·intro w hSw
  go_simp
  try with_reducible rfl
 try simp only [Act.put, aS, aZ, aC]
 refine wpAnyH_ready (rs := [5]) (by kernel_rfl) (by simp) ?_
 refine AllReadyH.cons rfl (fun K hK => ?_) AllReadyH.nil
 go_simp
 refine (HQ.out _).mono ?_
 rintro e w1 ⟨rfl, rfl⟩
 refine hK.out _ _ trivial ?_
 clear hK hHeld K
 intro hHeld
 try (unfold Act.put; simp only [aS, aZ, aC])
 refine tkr 6 ?_ hHeld ?_ ?_
 rotate_left
 ·intro w hSw
  go_simp
  try with_reducible rfl
 try simp only [Act.put, aS, aZ, aC]
 refine tkr 7 ?_ hHeld ?_ ?_
 rotate_left
 ·intro w hSw
  go_simp
  try with_reducible rfl
 try simp only [Act.put, aS, aZ, aC]
 refine wpAnyH_done (by kernel_rfl) ?_ _
 refine NoPanic.normal ?_
 go_wp2
 go_ret
 exact ⟨rfl, (Dr.refl _).drew⟩
structure Fy where
 at_ : Int
 kind : Int
 tgt : Int
 ord : Int
 sym : ByteArray
 add : Int
 weak : Bool
def Fy.cells (s : Fy) : List Value := [.int .u64 s.at_, .int .i64 s.kind, .int .u64 s.tgt, .int .i64 s.ord, .string s.sym, .int .i64 s.add, .bool s.weak]
abbrev Fy.v (s : Fy) : Value := .agg #[.int .u64 s.at_, .int .i64 s.kind, .int .u64 s.tgt, .int .i64 s.ord, .string s.sym, .int .i64 s.add, .bool s.weak]
def Fy.wf (s : Fy) : Prop := (Lit.int .u64 s.at_).wf = true ∧ (Lit.int .i64 s.kind).wf = true ∧ (Lit.int .u64 s.tgt).wf = true ∧ (Lit.int .i64 s.ord).wf = true ∧ (Lit.int .i64 s.add).wf = true
def Fy.zero : Fy := ⟨0, 0, 0, 0, ⟨#[]⟩, 0, false⟩
def fyL : Lay Fy := ⟨7, Fy.cells, Fy.zero, fun _ => rfl, by decide, fun x u hu => by
 simp only [Fy.cells, List.mem_cons, List.not_mem_nil, or_false] at hu
 rcases hu with rfl | rfl | rfl | rfl | rfl | rfl | rfl <;> rfl⟩
theorem Fy.at {w : World} {b o : Nat} {s : Fy} (h : fyL.In w b o s) : w.cell? ⟨b, o, none⟩ = some (.int .u64 s.at_) ∧ w.cell? ⟨b, o + 1, none⟩ = some (.int .i64 s.kind) ∧ w.cell? ⟨b, o + 2, none⟩ = some (.int .u64 s.tgt) ∧ w.cell? ⟨b, o + 3, none⟩ = some (.int .i64 s.ord) ∧ w.cell? ⟨b, o + 4, none⟩ = some (.string s.sym) ∧ w.cell? ⟨b, o + 5, none⟩ = some (.int .i64 s.add) ∧ w.cell? ⟨b, o + 6, none⟩ = some (.bool s.weak) :=
 ⟨h 0 (by decide), h 1 (by decide), h 2 (by decide), h 3 (by decide), h 4 (by decide), h 5 (by decide), h 6 (by decide)⟩
theorem Fy.at0 {w : World} {b : Nat} {s : Fy} (h : fyL.In w b 0 s) : w.cell? ⟨b, 0, none⟩ = some (.int .u64 s.at_) ∧ w.cell? ⟨b, 1, none⟩ = some (.int .i64 s.kind) ∧ w.cell? ⟨b, 2, none⟩ = some (.int .u64 s.tgt) ∧ w.cell? ⟨b, 3, none⟩ = some (.int .i64 s.ord) ∧ w.cell? ⟨b, 4, none⟩ = some (.string s.sym) ∧ w.cell? ⟨b, 5, none⟩ = some (.int .i64 s.add) ∧ w.cell? ⟨b, 6, none⟩ = some (.bool s.weak) := by
 obtain ⟨h0, h1, h2, h3, h4, h5, h6⟩ := Fy.at h
 simp only [Nat.zero_add] at h1 h2 h3 h4 h5 h6
 exact ⟨h0, h1, h2, h3, h4, h5, h6⟩
theorem Fy.boxed (w : World) (s : Fy) (T : TypeId) : fyL.In (w.alloc (.cells #[.int .u64 s.at_, .int .i64 s.kind, .int .u64 s.tgt, .int .i64 s.ord, .string s.sym, .int .i64 s.add, .bool s.weak] T)) w.heap.size 0 s := fun c _ => by
 rw [cell_of_heap (heap_alloc_eq w _), Nat.zero_add]
 exact List.getElem?_toArray ..
theorem Fy.box (w : World) (s : Fy) (T : TypeId) : fyL.Box (w.alloc (.cells #[.int .u64 s.at_, .int .i64 s.kind, .int .u64 s.tgt, .int .i64 s.ord, .string s.sym, .int .i64 s.add, .bool s.weak] T)) w.heap.size s := Lay.Box.of_alloc (L := fyL) w s T
theorem Fy.put0 {w : World} {g : Nat} {y : Fy} (h : fyL.Box w g y) (s : Fy) : fyL.Box (((((((w.setCell ⟨g, 0, none⟩ (.int .u64 s.at_)).setCell ⟨g, 1, none⟩ (.int .i64 s.kind)).setCell ⟨g, 2, none⟩ (.int .u64 s.tgt)).setCell ⟨g, 3, none⟩ (.int .i64 s.ord)).setCell ⟨g, 4, none⟩ (.string s.sym)).setCell ⟨g, 5, none⟩ (.int .i64 s.add)).setCell ⟨g, 6, none⟩ (.bool s.weak)) g s := Lay.Box.put h s
theorem Fy.chg0 (w : World) (g : Nat) (s : Fy) : Chg [g] w (((((((w.setCell ⟨g, 0, none⟩ (.int .u64 s.at_)).setCell ⟨g, 1, none⟩ (.int .i64 s.kind)).setCell ⟨g, 2, none⟩ (.int .u64 s.tgt)).setCell ⟨g, 3, none⟩ (.int .i64 s.ord)).setCell ⟨g, 4, none⟩ (.string s.sym)).setCell ⟨g, 5, none⟩ (.int .i64 s.add)).setCell ⟨g, 6, none⟩ (.bool s.weak)) := Lay.setW_chg g s.cells w 0
theorem Fy.c_kind {w : World} {b : Nat} {s : Fy} (h : fyL.Box w b s) : w.cell? ⟨b, 1, none⟩ = some (.int .i64 s.kind) := by have := h.in 1 (by decide); rw [Nat.zero_add] at this; exact this
theorem Fy.c_tgt {w : World} {b : Nat} {s : Fy} (h : fyL.Box w b s) : w.cell? ⟨b, 2, none⟩ = some (.int .u64 s.tgt) := by have := h.in 2 (by decide); rw [Nat.zero_add] at this; exact this
theorem Fy.c_sym {w : World} {b : Nat} {s : Fy} (h : fyL.Box w b s) : w.cell? ⟨b, 4, none⟩ = some (.string s.sym) := by have := h.in 4 (by decide); rw [Nat.zero_add] at this; exact this
theorem Fy.at0B {w : World} {b : Nat} {s : Fy} (h : fyL.Box w b s) : w.cell? ⟨b, 0, none⟩ = some (.int .u64 s.at_) ∧ w.cell? ⟨b, 1, none⟩ = some (.int .i64 s.kind) ∧ w.cell? ⟨b, 2, none⟩ = some (.int .u64 s.tgt) ∧ w.cell? ⟨b, 3, none⟩ = some (.int .i64 s.ord) ∧ w.cell? ⟨b, 4, none⟩ = some (.string s.sym) ∧ w.cell? ⟨b, 5, none⟩ = some (.int .i64 s.add) ∧ w.cell? ⟨b, 6, none⟩ = some (.bool s.weak) := Fy.at0 h.in
theorem Fy.ext' {s r : Fy} (h0 : s.at_ = r.at_) (h1 : s.kind = r.kind) (h2 : s.tgt = r.tgt) (h3 : s.ord = r.ord) (h4 : s.sym = r.sym) (h5 : s.add = r.add) (h6 : s.weak = r.weak) : s = r := by
 cases s; cases r; simp only at h0 h1 h2 h3 h4 h5 h6; subst h0 h1 h2 h3 h4 h5 h6; rfl
instance : DecidableEq Fy := fun s r => decidable_of_iff (s.at_ = r.at_ ∧ s.kind = r.kind ∧ s.tgt = r.tgt ∧ s.ord = r.ord ∧ s.sym = r.sym ∧ s.add = r.add ∧ s.weak = r.weak) ⟨fun h => Fy.ext' h.1 h.2.1 h.2.2.1 h.2.2.2.1 h.2.2.2.2.1 h.2.2.2.2.2.1 h.2.2.2.2.2.2, fun h => by rw [h]; exact ⟨rfl, rfl, rfl, rfl, rfl, rfl, rfl⟩⟩
def pow56 : Nat := 72057594037927936
theorem pow56_eq : (2 : Nat) ^ 56 = pow56 := by decide
def m64 : Nat := 18446744073709551616
abbrev fixV (at_ kind tgt ord : Int) (sym : ByteArray) (add : Int) (weak : Bool) : Value := .agg #[.int .u64 at_, .int .i64 kind, .int .u64 tgt, .int .i64 ord, .string sym, .int .i64 add, .bool weak]
def tgt (t a h : Nat) : Nat := (t + a) % m64 % pow56 + h * pow56
theorem rebase_any (t a h : Nat) (hh : h < 256) (w : World) :
  Calls Tryz.prog 64 #[.int .u64 t, .int .u64 a, .int .u64 h] w fun e w' => e = .returned (fixV 0 1 (tgt t a h) 0 ⟨#[]⟩ 0 false) ∧ Chg [] w w' := by
 obtain ⟨P, hP⟩ : ∃ P, P = pow56 := ⟨_, rfl⟩
 obtain ⟨s, hs⟩ : ∃ s, s = (t + a) % m64 := ⟨_, rfl⟩
 obtain ⟨T, hT⟩ : ∃ T, T = tgt t a h := ⟨_, rfl⟩
 have hpow : ∀ w, Calls Tryz.prog 65 #[.int .i64 56] w fun e w' => e = .returned (.int .u64 (P : Int)) ∧ w = w' := fun w => by
  have := power_any 56 (by decide) w
  rw [pow56_eq, ← hP] at this
  exact this
 have w1 : IntKind.u64.wrap ((t : Int) + (a : Int)) = (s : Int) := by rw [IntKind.wrap_u64, hs]; unfold m64; omega
 have w2 : (s : Int).tmod (P : Int) = ((s % P : Nat) : Int) := by rw [Int.tmod_eq_emod_of_nonneg (by omega), Int.natCast_emod]
 have w3 : IntKind.u64.wrap ((h : Int) * (P : Int)) = ((h * P : Nat) : Int) := by rw [IntKind.wrap_u64, hP]; unfold pow56; omega
 have w4 : IntKind.u64.wrap (((s % P : Nat) : Int) + ((h * P : Nat) : Int)) = (T : Int) := by rw [IntKind.wrap_u64, hT, hP, hs]; unfold tgt pow56 m64; omega
 have hP0 : ¬ P = 0 := by rw [hP]; decide
 rw [← hT]
 generalize s % P = u at w2 w4
 generalize h * P = v at w3 w4
 have Hpow := hY hpow
 clear hpow
 clear hP hs hT hh
 go_enter Tryz.func64, Tryz.ntmps64
 go_wp2_with fail
 refine wp_region_noPanic ?_
 refine wp_region_held_drew (S := fun _ => True) (by kernel_rfl) trivial (fun hHeld => ?_)
 refine tkr 0 ?_ hHeld ?_ ?_
 rotate_left
 ·intro w hSw
  go_simp
  try with_reducible rfl
 try simp only [Act.put, aS, aZ, aC]
 refine tkr 1 ?_ hHeld ?_ ?_
 rotate_left
 ·intro w hSw
  go_simp
  try with_reducible rfl
 try simp only [Act.put, aS, aZ, aC]
 refine tkr 2 ?_ hHeld ?_ ?_
 rotate_left
 ·intro w hSw
  go_simp
  try with_reducible rfl
 try simp only [Act.put, aS, aZ, aC]
 refine tkr 5 ?_ hHeld ?_ ?_
 rotate_left
 ·intro w hSw
  go_simp
  try with_reducible rfl
 try simp only [Act.put, aS, aZ, aC]
 refine wpAnyH_ready (rs := [3]) (by kernel_rfl) (by simp) ?_
 refine AllReadyH.cons rfl (fun K hK => ?_) AllReadyH.nil
 go_simp
 refine (Hpow.out _).mono ?_
 rintro e w1 ⟨rfl, rfl⟩
 refine hK.out _ _ trivial ?_
 clear hK hHeld K
 intro hHeld
 try (unfold Act.put; simp only [aS, aZ, aC])
 refine tkr 4 ?_ hHeld ?_ ?_
 rotate_left
 ·intro w hSw
  go_simp
  try with_reducible rfl
 try simp only [Act.put, aS, aZ, aC]
 refine wpAnyH_ready (rs := [6]) (by kernel_rfl) (by simp) ?_
 refine AllReadyH.cons rfl (fun K hK => ?_) AllReadyH.nil
 go_simp
 refine (Hpow.out _).mono ?_
 rintro e w1 ⟨rfl, rfl⟩
 refine hK.out _ _ trivial ?_
 clear hK hHeld K
 intro hHeld
 try (unfold Act.put; simp only [aS, aZ, aC])
 refine tkr 7 ?_ hHeld ?_ ?_
 rotate_left
 ·intro w hSw
  go_simp
  try with_reducible rfl
 try simp only [Act.put, aS, aZ, aC]
 refine tkr 8 ?_ hHeld ?_ ?_
 rotate_left
 ·intro w hSw
  go_simp
  try with_reducible rfl
 try simp only [Act.put, aS, aZ, aC]
 refine tkr 9 ?_ hHeld ?_ ?_
 rotate_left
 ·intro w hSw
  go_simp
  try with_reducible rfl
 try simp only [Act.put, aS, aZ, aC]
 refine wpAnyH_ready (rs := [10]) (by kernel_rfl) (by simp) ?_
 refine AllReadyH.cons rfl (fun K hK => ?_) AllReadyH.nil
 go_simp
 refine hK.out _ _ trivial ?_
 clear hK hHeld K
 intro hHeld
 try (unfold Act.put; simp only [aS, aZ, aC])
 refine wpAnyH_done (by kernel_rfl) ?_ _
 refine NoPanic.normal ?_
 go_wp2
 obtain ⟨g0, g1, g2, g3, g4, g5, g6⟩ := Fy.at0 ((Fy.boxed w ⟨0, 1, T, 0, ⟨#[]⟩, 0, false⟩ 44).frame ((Chg.refl [] _).drew))
 refine bodyPost_ret (v := fixV 0 1 T 0 ⟨#[]⟩ 0 false) (by simp [results, Tryz.results64, go_sem, g0, g1, g2, g3, g4, g5, g6]) rfl ?_
 exact ⟨rfl, ((Chg.refl _ _).alloc _).drew⟩
def bindF (nth : Nat) (add : Int) (l : List Imp) : Fy := if nth < l.length then ⟨0, 2, 0, (l.getD nth .zero).ord, (l.getD nth .zero).sym, wrap64 ((l.getD nth .zero).add + add), (l.getD nth .zero).weak⟩ else .zero
def bindN (nth : Nat) (l : List Imp) : Int := if nth < l.length then 0 else 16
set_option maxHeartbeats 1000000 in
theorem bind_any (nth : Nat) (hn : nth < 18446744073709551616) (add : Int) (l : List Imp) (v : Value) (w : World) (rd : impL.Rd w v l) :
  Calls Tryz.prog 63 #[.int .u64 nth, .int .i64 add, v] w fun e w' => e = .returned (.tuple #[(bindF nth add l).v, .int .i64 (bindN nth l)]) ∧ Chg [] w w' := by
 obtain ⟨a, cap, rfl, hc1, hc2⟩ := rd.shape
 have hw : IntKind.u64.wrap (l.length : Int) = (l.length : Int) := by rw [IntKind.wrap_u64]; omega
 by_cases hlt : nth < l.length
 ·have hF : bindF nth add l = ⟨0, 2, 0, (l.getD nth .zero).ord, (l.getD nth .zero).sym, wrap64 ((l.getD nth .zero).add + add), (l.getD nth .zero).weak⟩ := if_pos hlt
  have hN : bindN nth l = 0 := if_pos hlt
  rw [hF, hN]
  clear hF hN
  obtain ⟨b, off, rfl, hb, hcell⟩ := rd.at (by omega)
  have hI := hcell nth hlt
  obtain ⟨x, hx⟩ : ∃ x, x = l.getD nth .zero := ⟨_, rfl⟩
  have hI' : impL.In w b (off + nth * 4) x := by rw [hx]; exact hI
  rw [← hx]
  obtain ⟨x0, x1, x2, x3⟩ := Imp.at hI'
  have d0 : decide ((l.length : Int) ≤ (nth : Int)) = false := by simp; omega
  clear hI hI' hcell hx
  have Rd := hY rd
  clear rd
  go_enter Tryz.func63, Tryz.ntmps63
  go_wp2
  obtain ⟨g0, g1, g2, g3, g4, g5, g6⟩ := Fy.at0 ((Fy.boxed w ⟨0, 2, 0, x.ord, x.sym, wrap64 (x.add + add), x.weak⟩ 44).frame ((Chg.refl [] _).alloc (.cells #[.int .i64 x.ord, .bool x.weak, .string x.sym, .int .i64 x.add] 59)))
  refine bodyPost_ret (v := .tuple #[fixV 0 2 0 x.ord x.sym (wrap64 (x.add + add)) x.weak, .int .i64 0]) (by simp [results, Tryz.results63, go_sem, g0, g1, g2, g3, g4, g5, g6]) rfl ?_
  exact ⟨rfl, ((Chg.refl _ _).alloc _).alloc _⟩
 ·have hF : bindF nth add l = .zero := if_neg hlt
  have hN : bindN nth l = 16 := if_neg hlt
  rw [hF, hN]
  clear hF hN
  have d0 : decide ((l.length : Int) ≤ (nth : Int)) = true := by simp; omega
  clear rd
  go_enter Tryz.func63, Tryz.ntmps63
  go_wp2
  refine bodyPost_ret (v := .tuple #[fixV 0 0 0 0 ⟨#[]⟩ 0 false, .int .i64 16]) (by simp [results, Tryz.results63, go_sem]) rfl ?_
  exact ⟨rfl, ((Chg.refl _ _).alloc _)⟩
structure Say where
 bind : Bool
 nth : Int
 add : Int
 tgt : Int
 high : Int
 next : Int
def Say.cells (s : Say) : List Value := [.bool s.bind, .int .u64 s.nth, .int .i64 s.add, .int .u64 s.tgt, .int .u64 s.high, .int .i64 s.next]
abbrev Say.v (s : Say) : Value := .agg #[.bool s.bind, .int .u64 s.nth, .int .i64 s.add, .int .u64 s.tgt, .int .u64 s.high, .int .i64 s.next]
def Say.zero : Say := ⟨false, 0, 0, 0, 0, 0⟩
def sayL : Lay Say := ⟨6, Say.cells, Say.zero, fun _ => rfl, by decide, fun x u hu => by
 simp only [Say.cells, List.mem_cons, List.not_mem_nil, or_false] at hu
 rcases hu with rfl | rfl | rfl | rfl | rfl | rfl <;> rfl⟩
theorem Say.at {w : World} {b o : Nat} {s : Say} (h : sayL.In w b o s) : w.cell? ⟨b, o, none⟩ = some (.bool s.bind) ∧ w.cell? ⟨b, o + 1, none⟩ = some (.int .u64 s.nth) ∧ w.cell? ⟨b, o + 2, none⟩ = some (.int .i64 s.add) ∧ w.cell? ⟨b, o + 3, none⟩ = some (.int .u64 s.tgt) ∧ w.cell? ⟨b, o + 4, none⟩ = some (.int .u64 s.high) ∧ w.cell? ⟨b, o + 5, none⟩ = some (.int .i64 s.next) :=
 ⟨h 0 (by decide), h 1 (by decide), h 2 (by decide), h 3 (by decide), h 4 (by decide), h 5 (by decide)⟩
theorem Say.at0 {w : World} {b : Nat} {s : Say} (h : sayL.In w b 0 s) : w.cell? ⟨b, 0, none⟩ = some (.bool s.bind) ∧ w.cell? ⟨b, 1, none⟩ = some (.int .u64 s.nth) ∧ w.cell? ⟨b, 2, none⟩ = some (.int .i64 s.add) ∧ w.cell? ⟨b, 3, none⟩ = some (.int .u64 s.tgt) ∧ w.cell? ⟨b, 4, none⟩ = some (.int .u64 s.high) ∧ w.cell? ⟨b, 5, none⟩ = some (.int .i64 s.next) := by
 obtain ⟨h0, h1, h2, h3, h4, h5⟩ := Say.at h
 simp only [Nat.zero_add] at h1 h2 h3 h4 h5
 exact ⟨h0, h1, h2, h3, h4, h5⟩
theorem Say.boxed (w : World) (s : Say) (T : TypeId) : sayL.In (w.alloc (.cells #[.bool s.bind, .int .u64 s.nth, .int .i64 s.add, .int .u64 s.tgt, .int .u64 s.high, .int .i64 s.next] T)) w.heap.size 0 s := fun c _ => by
 rw [cell_of_heap (heap_alloc_eq w _), Nat.zero_add]
 exact List.getElem?_toArray ..
theorem Say.box (w : World) (s : Say) (T : TypeId) : sayL.Box (w.alloc (.cells #[.bool s.bind, .int .u64 s.nth, .int .i64 s.add, .int .u64 s.tgt, .int .u64 s.high, .int .i64 s.next] T)) w.heap.size s := Lay.Box.of_alloc (L := sayL) w s T
theorem Say.boxAt (w : World) (s : Say) (T : TypeId) {b : Nat} (hb : b = w.heap.size) : sayL.Box (w.alloc (.cells #[.bool s.bind, .int .u64 s.nth, .int .i64 s.add, .int .u64 s.tgt, .int .u64 s.high, .int .i64 s.next] T)) b s := by rw [hb]; exact Say.box w s T
theorem Say.put0 {w : World} {g : Nat} {y : Say} (h : sayL.Box w g y) (s : Say) : sayL.Box ((((((w.setCell ⟨g, 0, none⟩ (.bool s.bind)).setCell ⟨g, 1, none⟩ (.int .u64 s.nth)).setCell ⟨g, 2, none⟩ (.int .i64 s.add)).setCell ⟨g, 3, none⟩ (.int .u64 s.tgt)).setCell ⟨g, 4, none⟩ (.int .u64 s.high)).setCell ⟨g, 5, none⟩ (.int .i64 s.next)) g s := Lay.Box.put h s
theorem Say.chg0 (w : World) (g : Nat) (s : Say) : Chg [g] w ((((((w.setCell ⟨g, 0, none⟩ (.bool s.bind)).setCell ⟨g, 1, none⟩ (.int .u64 s.nth)).setCell ⟨g, 2, none⟩ (.int .i64 s.add)).setCell ⟨g, 3, none⟩ (.int .u64 s.tgt)).setCell ⟨g, 4, none⟩ (.int .u64 s.high)).setCell ⟨g, 5, none⟩ (.int .i64 s.next)) := Lay.setW_chg g s.cells w 0
theorem Say.set_bind {w : World} {g : Nat} {s : Say} (h : sayL.Box w g s) (x : Bool) : sayL.Box (w.setCell ⟨g, 0, none⟩ (.bool x)) g { s with bind := x } := Lay.Box.set h 0 _ _ rfl
theorem Say.set_nth {w : World} {g : Nat} {s : Say} (h : sayL.Box w g s) (x : Int) : sayL.Box (w.setCell ⟨g, 1, none⟩ (.int .u64 x)) g { s with nth := x } := Lay.Box.set h 1 _ _ rfl
theorem Say.set_add {w : World} {g : Nat} {s : Say} (h : sayL.Box w g s) (x : Int) : sayL.Box (w.setCell ⟨g, 2, none⟩ (.int .i64 x)) g { s with add := x } := Lay.Box.set h 2 _ _ rfl
theorem Say.set_tgt {w : World} {g : Nat} {s : Say} (h : sayL.Box w g s) (x : Int) : sayL.Box (w.setCell ⟨g, 3, none⟩ (.int .u64 x)) g { s with tgt := x } := Lay.Box.set h 3 _ _ rfl
theorem Say.set_high {w : World} {g : Nat} {s : Say} (h : sayL.Box w g s) (x : Int) : sayL.Box (w.setCell ⟨g, 4, none⟩ (.int .u64 x)) g { s with high := x } := Lay.Box.set h 4 _ _ rfl
theorem Say.at0B {w : World} {b : Nat} {s : Say} (h : sayL.Box w b s) : w.cell? ⟨b, 0, none⟩ = some (.bool s.bind) ∧ w.cell? ⟨b, 1, none⟩ = some (.int .u64 s.nth) ∧ w.cell? ⟨b, 2, none⟩ = some (.int .i64 s.add) ∧ w.cell? ⟨b, 3, none⟩ = some (.int .u64 s.tgt) ∧ w.cell? ⟨b, 4, none⟩ = some (.int .u64 s.high) ∧ w.cell? ⟨b, 5, none⟩ = some (.int .i64 s.next) := Say.at0 h.in
def fixF (s : Say) (l : List Imp) : Fy := if s.bind then bindF s.nth.toNat s.add l else ⟨0, 1, ((s.tgt.toNat % pow56 + s.high.toNat * pow56 : Nat) : Int), 0, ⟨#[]⟩, 0, false⟩
def fixN (s : Say) (l : List Imp) : Int := if s.bind then bindN s.nth.toNat l else 0
def Say.ok (s : Say) : Prop := 0 ≤ s.nth ∧ s.nth < 18446744073709551616 ∧ 0 ≤ s.tgt ∧ s.tgt < 18446744073709551616 ∧ 0 ≤ s.high ∧ s.high < 256
set_option maxHeartbeats 1000000 in
theorem fix_any (s : Say) (ok : s.ok) (l : List Imp) (v : Value) (w : World) (rd : impL.Rd w v l) :
  Calls Tryz.prog 34 #[s.v, v] w fun e w' => e = .returned (.tuple #[(fixF s l).v, .int .i64 (fixN s l)]) ∧ Chg [] w w' := by
 obtain ⟨sb, sn, sa, st, sh, sx⟩ := s
 obtain ⟨hn1, hn2, ht1, ht2, hh1, hh2⟩ := ok
 simp only at hn1 hn2 ht1 ht2 hh1 hh2
 obtain ⟨n, rfl⟩ := Int.eq_ofNat_of_zero_le hn1
 obtain ⟨t, rfl⟩ := Int.eq_ofNat_of_zero_le ht1
 obtain ⟨h, rfl⟩ := Int.eq_ofNat_of_zero_le hh1
 cases sb with
 | false =>
  have hF : fixF ⟨false, n, sa, t, h, sx⟩ l = ⟨0, 1, ((t % pow56 + h * pow56 : Nat) : Int), 0, ⟨#[]⟩, 0, false⟩ := by simp [fixF]
  have hN : fixN ⟨false, n, sa, t, h, sx⟩ l = 0 := by simp [fixN]
  rw [hF, hN]
  clear hF hN rd
  obtain ⟨T, hT⟩ : ∃ T : Nat, T = t % pow56 + h * pow56 := ⟨_, rfl⟩
  obtain ⟨u, hu⟩ : ∃ u : Nat, u = t % pow56 := ⟨_, rfl⟩
  obtain ⟨m, hm⟩ : ∃ m : Nat, m = h * pow56 := ⟨_, rfl⟩
  have HB : Hid (∀ w, Calls Tryz.prog 73 #[.int .u64 (t : Int), .int .i64 0, .int .i64 56] w fun e w' => e = .returned (.int .u64 (u : Int)) ∧ Dr w w') := by
   refine hY ?_
   intro w
   have := bits_any t 0 56 (by omega) (by decide) (by decide) w
   rw [pow56_eq, Nat.pow_zero, Nat.div_one, ← hu] at this
   exact this
  have q1 : IntKind.u64.wrap ((h : Int) * 72057594037927936) = (m : Int) := by rw [IntKind.wrap_u64, hm]; unfold pow56; omega
  have q2 : bits .or .u64 (u : Int) (m : Int) = (T : Int) := by
   have e1 : t % pow56 < 2 ^ 56 := by rw [pow56_eq]; exact Nat.mod_lt _ (by decide)
   have e2 := Nat.two_pow_add_eq_or_of_lt e1 h
   rw [pow56_eq, Nat.mul_comm pow56 h] at e2
   have e3 : t % pow56 < 72057594037927936 := e1
   rw [hu, hm, u64_or_nat _ _ (by omega) (by unfold pow56; omega), Nat.or_comm, ← e2, hT, Nat.add_comm]
  clear hu hm
  rw [← hT]
  clear hT
  show Calls _ _ #[.agg #[.bool false, .int .u64 (n : Int), .int .i64 sa, .int .u64 (t : Int), .int .u64 (h : Int), .int .i64 sx], v] w _
  go_enter Tryz.func34, Tryz.ntmps34
  go_upto_region 2 with fail
  have esz : (w.alloc (.cells #[.bool false, .int .u64 (n : Int), .int .i64 sa, .int .u64 (t : Int), .int .u64 (h : Int), .int .i64 sx] 96)).heap.size = w.heap.size + 1 := by simp
  have hZ := Fy.box (w.alloc (.cells #[.bool false, .int .u64 (n : Int), .int .i64 sa, .int .u64 (t : Int), .int .u64 (h : Int), .int .i64 sx] 96)) .zero 44
  rw [esz] at hZ
  obtain ⟨_, _, _, x3, x4, _⟩ := Say.at0 ((Say.boxed w ⟨false, n, sa, t, h, sx⟩ 96).frame ((Chg.refl [] _).alloc (.cells Fy.zero.cells.toArray 44)))
  simp only at x3 x4
  clear esz
  have HZ := hY hZ
  clear hZ
  refine wp_region_noPanic ?_
  refine wp_region_held_drew (S := fun w' => Chg [w.heap.size + 1] ((w.alloc (.cells #[.bool false, .int .u64 (n : Int), .int .i64 sa, .int .u64 (t : Int), .int .u64 (h : Int), .int .i64 sx] 96)).alloc (.cells #[.int .u64 0, .int .i64 0, .int .u64 0, .int .i64 0, .string ⟨#[]⟩, .int .i64 0, .bool false] 44)) w') (by kernel_rfl) (Chg.refl _ _).drew (fun hHeld => ?_)
  refine tkr 0 ?_ hHeld ?_ ?_
  rotate_left
  ·intro w hSw
   go_simp
   try with_reducible rfl
  try simp only [Act.put, aS, aZ, aC]
  refine tkr 1 ?_ hHeld ?_ ?_
  rotate_left
  ·intro w hSw
   have x3 := hSw.cell x3 (by simp)
   go_simp
   try with_reducible rfl
  try simp only [Act.put, aS, aZ, aC]
  refine tkr 3 ?_ hHeld ?_ ?_
  rotate_left
  ·intro w hSw
   go_simp
   try with_reducible rfl
  try simp only [Act.put, aS, aZ, aC]
  refine tkr 4 ?_ hHeld ?_ ?_
  rotate_left
  ·intro w hSw
   have x4 := hSw.cell x4 (by simp)
   go_simp
   try with_reducible rfl
  try simp only [Act.put, aS, aZ, aC]
  refine tkr 5 ?_ hHeld ?_ ?_
  rotate_left
  ·intro w hSw
   go_simp
   try with_reducible rfl
  try simp only [Act.put, aS, aZ, aC]
  refine wpAnyH_ready (rs := [2]) (by kernel_rfl) (by simp) ?_
  refine AllReadyH.cons rfl (fun K hK => ?_) AllReadyH.nil
  go_simp
  refine (HB.out _).mono ?_
  rintro e w2 ⟨rfl, h2⟩
  obtain ⟨n2, rfl⟩ := h2.ex
  clear h2
  refine hK.out _ _ (show Chg [w.heap.size + 1] ((w.alloc (.cells #[.bool false, .int .u64 (n : Int), .int .i64 sa, .int .u64 (t : Int), .int .u64 (h : Int), .int .i64 sx] 96)).alloc (.cells #[.int .u64 0, .int .i64 0, .int .u64 0, .int .i64 0, .string ⟨#[]⟩, .int .i64 0, .bool false] 44)) (((w.alloc (.cells #[.bool false, .int .u64 (n : Int), .int .i64 sa, .int .u64 (t : Int), .int .u64 (h : Int), .int .i64 sx] 96)).alloc (.cells #[.int .u64 0, .int .i64 0, .int .u64 0, .int .i64 0, .string ⟨#[]⟩, .int .i64 0, .bool false] 44)).drew.drewN n2) from ((Chg.refl _ _).drew).drewN _) ?_
  clear hK hHeld K
  intro hHeld
  try (unfold Act.put; simp only [aS, aZ, aC])
  refine tkr 6 ?_ hHeld ?_ ?_
  rotate_left
  ·intro w hSw
   go_simp
   try with_reducible rfl
  try simp only [Act.put, aS, aZ, aC]
  refine tkr 7 ?_ hHeld ?_ ?_
  rotate_left
  ·intro w hSw
   go_simp
   try with_reducible rfl
  try simp only [Act.put, aS, aZ, aC]
  refine wpAnyH_ready (rs := [8]) (by kernel_rfl) (by simp) ?_
  refine AllReadyH.cons rfl (fun K hK => ?_) AllReadyH.nil
  go_simp
  refine hK.out _ _ (((Chg.refl _ _).drewN _).same (Fy.chg0 _ (w.heap.size + 1) ⟨0, 1, T, 0, ⟨#[]⟩, 0, false⟩)) ?_
  clear hK hHeld K
  intro hHeld
  try (unfold Act.put; simp only [aS, aZ, aC])
  refine tkr 9 ?_ hHeld ?_ ?_
  rotate_left
  ·intro w hSw
   go_simp
   try with_reducible rfl
  try simp only [Act.put, aS, aZ, aC]
  refine wpAnyH_done (by kernel_rfl) ?_ _
  refine NoPanic.normal ?_
  go_wp2
  refine Lay.with_post (fun W => fyL.Box W (w.heap.size + 1) ⟨0, 1, T, 0, ⟨#[]⟩, 0, false⟩ ∧ Chg [] w W) ⟨Fy.put0 (g := w.heap.size + 1) (HZ.out.drewN _) ⟨0, 1, T, 0, ⟨#[]⟩, 0, false⟩, ((((Chg.refl [] w).alloc _).alloc _).drewN _).trans (Fy.chg0 _ (w.heap.size + 1) ⟨0, 1, T, 0, ⟨#[]⟩, 0, false⟩) (fun i hi hw => by rw [List.mem_singleton] at hi; omega)⟩ (fun W hW => ?_)
  obtain ⟨g0, g1, g2, g3, g4, g5, g6⟩ := Fy.at0B hW.1
  refine bodyPost_ret (v := .tuple #[fixV 0 1 T 0 ⟨#[]⟩ 0 false, .int .i64 0]) (by simp [results, Tryz.results34, go_sem, g0, g1, g2, g3, g4, g5, g6]) rfl ?_
  exact ⟨rfl, hW.2⟩
 | true =>
  clear hh1 hh2 ht1 ht2 hn1 hn2
  have hw : IntKind.u64.wrap (l.length : Int) = (l.length : Int) := by
   obtain ⟨_, _, _, _, _⟩ := rd.shape
   rw [IntKind.wrap_u64]; omega
  obtain ⟨a, cap, rfl, hc1, hc2⟩ := rd.shape
  have hF : fixF ⟨true, n, sa, t, h, sx⟩ l = bindF n sa l := by simp [fixF]
  have hN : fixN ⟨true, n, sa, t, h, sx⟩ l = bindN n l := by simp [fixN]
  rw [hF, hN]
  clear hF hN
  by_cases hlt : n < l.length
  ·have hF : bindF n sa l = ⟨0, 2, 0, (l.getD n .zero).ord, (l.getD n .zero).sym, wrap64 ((l.getD n .zero).add + sa), (l.getD n .zero).weak⟩ := if_pos hlt
   have hN : bindN n l = 0 := if_pos hlt
   rw [hF, hN]
   clear hF hN
   obtain ⟨b, off, rfl, hb, hcell⟩ := rd.at (by omega)
   have hI := hcell n hlt
   obtain ⟨x, hx⟩ : ∃ x, x = l.getD n .zero := ⟨_, rfl⟩
   have hI' : impL.In w b (off + n * 4) x := by rw [hx]; exact hI
   rw [← hx]
   obtain ⟨x0, x1, x2, x3⟩ := Imp.at hI'
   have d0 : decide ((l.length : Int) ≤ (n : Int)) = false := by simp; omega
   clear hI hI' hcell hx rd
   show Calls _ _ #[.agg #[.bool true, .int .u64 (n : Int), .int .i64 sa, .int .u64 (t : Int), .int .u64 (h : Int), .int .i64 sx], _] w _
   go_enter Tryz.func34, Tryz.ntmps34
   go_wp2
   refine bodyPost_ret (v := .tuple #[fixV 0 2 0 x.ord x.sym (wrap64 (x.add + sa)) x.weak, .int .i64 0]) (by simp [results, Tryz.results34, go_sem]) rfl ?_
   exact ⟨rfl, (((Chg.refl _ _).alloc _).alloc _).alloc _⟩
  ·have hF : bindF n sa l = .zero := if_neg hlt
   have hN : bindN n l = 16 := if_neg hlt
   rw [hF, hN]
   clear hF hN rd
   have d0 : decide ((l.length : Int) ≤ (n : Int)) = true := by simp; omega
   show Calls _ _ #[.agg #[.bool true, .int .u64 (n : Int), .int .i64 sa, .int .u64 (t : Int), .int .u64 (h : Int), .int .i64 sx], _] w _
   go_enter Tryz.func34, Tryz.ntmps34
   go_wp2
   refine bodyPost_ret (v := .tuple #[fixV 0 0 0 0 ⟨#[]⟩ 0 false, .int .i64 16]) (by simp [results, Tryz.results34, go_sem]) rfl ?_
   exact ⟨rfl, ((Chg.refl _ _).alloc _).alloc _⟩
def bt (n f m : Nat) : Nat := n / 2 ^ f % 2 ^ m
theorem bt_lt (n f m : Nat) : bt n f m < 2 ^ m := Nat.mod_lt _ (Nat.two_pow_pos m)
structure Fmt where
 low : Int
 above : Bool
 nth : Int
def Fmt.cells (s : Fmt) : List Value := [.int .u64 s.low, .bool s.above, .int .i64 s.nth]
abbrev Fmt.v (s : Fmt) : Value := .agg #[.int .u64 s.low, .bool s.above, .int .i64 s.nth]
def Fmt.zero : Fmt := ⟨0, false, 0⟩
def fmtL : Lay Fmt := ⟨3, Fmt.cells, Fmt.zero, fun _ => rfl, by decide, fun x u hu => by
 simp only [Fmt.cells, List.mem_cons, List.not_mem_nil, or_false] at hu
 rcases hu with rfl | rfl | rfl <;> rfl⟩
theorem Fmt.at {w : World} {b o : Nat} {s : Fmt} (h : fmtL.In w b o s) : w.cell? ⟨b, o, none⟩ = some (.int .u64 s.low) ∧ w.cell? ⟨b, o + 1, none⟩ = some (.bool s.above) ∧ w.cell? ⟨b, o + 2, none⟩ = some (.int .i64 s.nth) :=
 ⟨h 0 (by decide), h 1 (by decide), h 2 (by decide)⟩
theorem Fmt.at0 {w : World} {b : Nat} {s : Fmt} (h : fmtL.In w b 0 s) : w.cell? ⟨b, 0, none⟩ = some (.int .u64 s.low) ∧ w.cell? ⟨b, 1, none⟩ = some (.bool s.above) ∧ w.cell? ⟨b, 2, none⟩ = some (.int .i64 s.nth) := by
 obtain ⟨h0, h1, h2⟩ := Fmt.at h
 simp only [Nat.zero_add] at h1 h2
 exact ⟨h0, h1, h2⟩
theorem Fmt.box (w : World) (s : Fmt) (T : TypeId) : fmtL.Box (w.alloc (.cells #[.int .u64 s.low, .bool s.above, .int .i64 s.nth] T)) w.heap.size s := Lay.Box.of_alloc (L := fmtL) w s T
theorem Fmt.boxAt (w : World) (s : Fmt) (T : TypeId) {b : Nat} (hb : b = w.heap.size) : fmtL.Box (w.alloc (.cells #[.int .u64 s.low, .bool s.above, .int .i64 s.nth] T)) b s := by rw [hb]; exact Fmt.box w s T
theorem Fmt.at0B {w : World} {b : Nat} {s : Fmt} (h : fmtL.Box w b s) : w.cell? ⟨b, 0, none⟩ = some (.int .u64 s.low) ∧ w.cell? ⟨b, 1, none⟩ = some (.bool s.above) ∧ w.cell? ⟨b, 2, none⟩ = some (.int .i64 s.nth) := Fmt.at0 h.in
def oldS (low : Nat) (above : Bool) (nth : Nat) (n : Nat) : Say :=
 if bt n 63 1 = 1 then ⟨true, bt n 0 nth, bt n 24 8, 0, 0, bt n 51 12⟩
 else ⟨false, 0, 0, ((if above then (bt n 0 36 + low) % 18446744073709551616 else bt n 0 36 : Nat) : Int), bt n 36 8, bt n 51 12⟩
set_option maxHeartbeats 4000000 in
theorem old_any (n : Nat) (hn : n < 18446744073709551616) (low : Nat) (above : Bool) (nth : Nat) (hnth : nth ≤ 63) (w : World) :
  Calls Tryz.prog 72 #[Fmt.v ⟨low, above, nth⟩, .int .u64 n] w fun e w' => e = .returned (oldS low above nth n).v ∧ Chg [] w w' := by
 have H51 : Hid (∀ w, Calls Tryz.prog 73 #[.int .u64 (n : Int), .int .i64 51, .int .i64 12] w fun e w' => e = .returned (.int .u64 (bt n 51 12 : Int)) ∧ Dr w w') := hY (fun w => bits_any n 51 12 hn (by decide) (by decide) w)
 have H63 : Hid (∀ w, Calls Tryz.prog 73 #[.int .u64 (n : Int), .int .i64 63, .int .i64 1] w fun e w' => e = .returned (.int .u64 (bt n 63 1 : Int)) ∧ Dr w w') := hY (fun w => bits_any n 63 1 hn (by decide) (by decide) w)
 have H24 : Hid (∀ w, Calls Tryz.prog 73 #[.int .u64 (n : Int), .int .i64 24, .int .i64 8] w fun e w' => e = .returned (.int .u64 (bt n 24 8 : Int)) ∧ Dr w w') := hY (fun w => bits_any n 24 8 hn (by decide) (by decide) w)
 have H0 : Hid (∀ w, Calls Tryz.prog 73 #[.int .u64 (n : Int), .int .i64 0, .int .i64 36] w fun e w' => e = .returned (.int .u64 (bt n 0 36 : Int)) ∧ Dr w w') := hY (fun w => bits_any n 0 36 hn (by decide) (by decide) w)
 have H36 : Hid (∀ w, Calls Tryz.prog 73 #[.int .u64 (n : Int), .int .i64 36, .int .i64 8] w fun e w' => e = .returned (.int .u64 (bt n 36 8 : Int)) ∧ Dr w w') := hY (fun w => bits_any n 36 8 hn (by decide) (by decide) w)
 have HN : Hid (∀ w, Calls Tryz.prog 73 #[.int .u64 (n : Int), .int .i64 0, .int .i64 nth] w fun e w' => e = .returned (.int .u64 (bt n 0 nth : Int)) ∧ Dr w w') := hY (fun w => bits_any n 0 nth hn (by decide) hnth w)
 have w51 : wrap64 (bt n 51 12 : Int) = (bt n 51 12 : Int) := by have := bt_lt n 51 12; unfold wrap64; omega
 have w24 : wrap64 (bt n 24 8 : Int) = (bt n 24 8 : Int) := by have := bt_lt n 24 8; unfold wrap64; omega
 have hlt := bt_lt n 0 36
 unfold oldS
 generalize bt n 51 12 = A at *
 generalize bt n 63 1 = T at *
 generalize bt n 24 8 = D at *
 generalize bt n 0 36 = E at *
 generalize bt n 36 8 = F at *
 generalize bt n 0 nth = C at *
 clear hn hnth
 by_cases hT : T = 1
 ·subst hT
  rw [if_pos rfl]
  show Calls _ _ #[.agg #[.int .u64 (low : Int), .bool above, .int .i64 (nth : Int)], _] w _
  go_enter Tryz.func72, Tryz.ntmps72
  go_wp2_with fail
  refine ((H51).out _).mono ?_
  rintro e w' ⟨rfl, hdr⟩
  obtain ⟨k1, rfl⟩ := hdr.ex
  clear hdr
  go_wp2_with fail
  refine ((H63).out _).mono ?_
  rintro e w' ⟨rfl, hdr⟩
  obtain ⟨k2, rfl⟩ := hdr.ex
  clear hdr
  go_wp2_with fail
  refine ((HN).out _).mono ?_
  rintro e w' ⟨rfl, hdr⟩
  obtain ⟨k3, rfl⟩ := hdr.ex
  clear hdr
  go_wp2_with fail
  refine ((H24).out _).mono ?_
  rintro e w' ⟨rfl, hdr⟩
  obtain ⟨k4, rfl⟩ := hdr.ex
  clear hdr
  go_wp2
  refine bodyPost_ret (v := (Say.v ⟨true, C, D, 0, 0, A⟩)) (by simp [results, Tryz.results72, go_sem]) rfl ?_
  refine ⟨rfl, ?_⟩
  repeat' (first | with_reducible exact Chg.refl _ _ | with_reducible refine Chg.drewN ?_ _ | with_reducible refine Chg.drew ?_ | with_reducible refine Chg.alloc ?_ _ | with_reducible refine Chg.setCell ?_ _ _ (.inr ?_))
  all_goals ((try dsimp only); omega)
 ·rw [if_neg hT]
  have dT : ((T : Int) == 1) = false := by simp; omega
  have hF : ((F : Nat) : Int) = F := rfl
  clear hT hF
  show Calls _ _ #[.agg #[.int .u64 (low : Int), .bool above, .int .i64 (nth : Int)], _] w _
  cases above with
  | false =>
   clear hlt
   go_enter Tryz.func72, Tryz.ntmps72
   go_wp2_with fail
   refine ((H51).out _).mono ?_
   rintro e w' ⟨rfl, hdr⟩
   obtain ⟨k1, rfl⟩ := hdr.ex
   clear hdr
   go_wp2_with fail
   refine ((H63).out _).mono ?_
   rintro e w' ⟨rfl, hdr⟩
   obtain ⟨k2, rfl⟩ := hdr.ex
   clear hdr
   go_wp2_with fail
   refine ((H0).out _).mono ?_
   rintro e w' ⟨rfl, hdr⟩
   obtain ⟨k3, rfl⟩ := hdr.ex
   clear hdr
   go_wp2_with fail
   refine ((H36).out _).mono ?_
   rintro e w' ⟨rfl, hdr⟩
   obtain ⟨k4, rfl⟩ := hdr.ex
   clear hdr
   go_wp2
   refine bodyPost_ret (v := (Say.v ⟨false, 0, 0, E, F, A⟩)) (by simp [results, Tryz.results72, go_sem]) rfl ?_
   refine ⟨rfl, ?_⟩
   repeat' (first | with_reducible exact Chg.refl _ _ | with_reducible refine Chg.drewN ?_ _ | with_reducible refine Chg.drew ?_ | with_reducible refine Chg.alloc ?_ _ | with_reducible refine Chg.setCell ?_ _ _ (.inr ?_))
   all_goals ((try dsimp only); omega)
  | true =>
   have wE : IntKind.u64.wrap ((E : Int) + (low : Int)) = (((E + low) % 18446744073709551616 : Nat) : Int) := by rw [IntKind.wrap_u64]; omega
   simp only [if_true]
   generalize (E + low) % 18446744073709551616 = G at *
   clear hlt
   go_enter Tryz.func72, Tryz.ntmps72
   go_wp2_with fail
   refine ((H51).out _).mono ?_
   rintro e w' ⟨rfl, hdr⟩
   obtain ⟨k1, rfl⟩ := hdr.ex
   clear hdr
   go_wp2_with fail
   refine ((H63).out _).mono ?_
   rintro e w' ⟨rfl, hdr⟩
   obtain ⟨k2, rfl⟩ := hdr.ex
   clear hdr
   go_wp2_with fail
   refine ((H0).out _).mono ?_
   rintro e w' ⟨rfl, hdr⟩
   obtain ⟨k3, rfl⟩ := hdr.ex
   clear hdr
   go_wp2_with fail
   refine ((H36).out _).mono ?_
   rintro e w' ⟨rfl, hdr⟩
   obtain ⟨k4, rfl⟩ := hdr.ex
   clear hdr
   go_upto_region 8 with fail
   refine Lay.with_world (fun W => sayL.Box W (w.heap.size + 1 + 1) ⟨false, 0, 0, G, F, A⟩ ∧ sayL.Box W (w.heap.size + 1) ⟨false, 0, 0, 0, 0, 0⟩ ∧ Chg [] w W) ⟨?_, ?_, ?_⟩ (fun W hW => ?_)
   ·refine Say.set_tgt (Say.set_high (Say.set_tgt (Lay.Box.drewN (Say.boxAt _ ⟨false, 0, 0, 0, 0, A⟩ _ ?_) _) E) F) G
    simp
   ·repeat' (first | with_reducible exact Say.boxAt _ ⟨false, 0, 0, 0, 0, 0⟩ _ (by simp) | with_reducible refine Lay.Box.drewN ?_ _ | with_reducible refine Lay.Box.drew ?_ | with_reducible refine Lay.Box.alloc ?_ _ | with_reducible refine Lay.Box.setCell ?_ _ _ ?_)
    all_goals ((try dsimp only); omega)
   ·repeat' (first | with_reducible exact Chg.refl _ _ | with_reducible refine Chg.drewN ?_ _ | with_reducible refine Chg.drew ?_ | with_reducible refine Chg.alloc ?_ _ | with_reducible refine Chg.setCell ?_ _ _ (.inr ?_))
    all_goals ((try dsimp only); omega)
   obtain ⟨hx, hy, hc⟩ := hW
   obtain ⟨x0, x1, x2, x3, x4, x5⟩ := Say.at0B hx
   obtain ⟨y0, y1, y2, y3, y4, y5⟩ := Say.at0B hy
   have z0 := hy.frozen 0
   have z1 := hy.frozen 1
   have z2 := hy.frozen 2
   have z3 := hy.frozen 3
   have z4 := hy.frozen 4
   have z5 := hy.frozen 5
   have Hc := hY hc
   have Hx := hY hx
   have Hy := hY hy
   clear hc hx hy
   go_wp2
   refine Lay.with_post (fun W => sayL.Box W (w.heap.size + 1) ⟨false, 0, 0, G, F, A⟩ ∧ Chg [] w W) ⟨Say.put0 (g := w.heap.size + 1) Hy.out ⟨false, 0, 0, G, F, A⟩, Hc.out.new (Say.chg0 _ (w.heap.size + 1) ⟨false, 0, 0, G, F, A⟩) (by omega)⟩ (fun W hW => ?_)
   obtain ⟨g0, g1, g2, g3, g4, g5⟩ := Say.at0B hW.1
   refine bodyPost_ret (v := (Say.v ⟨false, 0, 0, G, F, A⟩)) (by simp [results, Tryz.results72, go_sem, g0, g1, g2, g3, g4, g5]) rfl ?_
   exact ⟨rfl, hW.2⟩
end Go.Proofs.YtiljokmkiolpgaaGreatDoor
