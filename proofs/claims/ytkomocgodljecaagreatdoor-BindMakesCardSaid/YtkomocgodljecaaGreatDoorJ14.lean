/- Lemmas, laid together: part 14 of 40. Conditions: none but each lemma's own. -/
import Derived.Test.YtkomocgodljecaaGreatDoorJ13
import Derived.Test.YtkomocgodljecaaGreatDoorJ2
import Derived.Test.YtkomocgodljecaaGreatDoorJ5
/- The cursor's Number, walked. -/
namespace Go.Proofs.YtkomocgodljecaaGreatDoor
open Go.RowKit

theorem number_some (b d off n cap at_ : Nat) (m : Nat) (big : Bool) (l : List UInt8) (w : World)
   (h : w.heap[b]? = some (.cells #[.slice (some ⟨d, off, none⟩) n cap, .int .i64 at_, .bool big, .bool false] 94 (0, 0)))
   (hn : n ≤ 140737488355328) (hc : n ≤ cap) (hc2 : cap ≤ 9223372036854775807) (hm : m = 1 ∨ m = 2 ∨ m = 4 ∨ m = 8) (hm2 : at_ + m ≤ n) (hbd : d ≠ b) (hll : l.length = m)
   (hl : ∀ j, j < m → w.cell? ⟨d, off + at_ + j, none⟩ = some (.int .u8 (l.getD j 0).toNat)) :
    Calls Tryz.prog 32 #[.pointer (some ⟨b, 0, none⟩), .int .i64 m] w fun e w' =>
      e = .returned (.int .u64 (numOf big l)) ∧ Dr (w.setCell ⟨b, 1, none⟩ (.int .i64 ((at_ : Int) + m))) w' := by
  rcases hm with rfl | rfl | rfl | rfl
  all_goals
    go_enter Tryz.func32, Tryz.ntmps32
    go_wp2_with fail
    refine (well_any b _ _ _ false true w h).mono ?_
    rintro e w' ⟨rfl, rfl⟩
    go_wp2_with fail
    refine (take_some b (some ⟨d, off, none⟩) n cap at_ _ _ w h (by omega) hn (by omega) (by omega) (by omega) hc hc2 (fun _ => ⟨_, _, rfl⟩)).mono ?_
    rintro e w1 ⟨rfl, hd⟩
    have hb2 := (hd.cell ⟨b, 2, none⟩).trans ((World.cell?_setCell_other w ⟨b, 1, none⟩ ⟨b, 2, none⟩ _ (by simp)).trans (cell_of_heap h 2))
    have hl2 := fun j hj => (hd.cell ⟨d, off + at_ + j, none⟩).trans ((World.cell?_setCell_other w ⟨b, 1, none⟩ ⟨d, off + at_ + j, none⟩ _ (by simp)).trans (hl j hj))
    clear hl h
    simp at hb2
    have HL := Lib.hid hll
    have HD := Lib.hid hd
    clear hll hd
    go_wp2_with fail
    go_loop [4, 5, 6, 28] (fun acc i x k28 => ∃ (k : Nat), k ≤ l.length ∧ k28 = .int .i64 k ∧ acc = .int .u64 (numOf big (l.take k))) (fun _ _ _ k28 => l.length - (intOf k28).toNat)
    case atStart => exact ⟨0, by omega, rfl, by cases big <;> rfl⟩
    case round =>
      obtain ⟨k, hk, rfl, rfl⟩ := hrel
      rw [HL.out] at hk
      by_cases hlt : k < l.length
      · have hlt' := hlt
        rw [HL.out] at hlt'
        have hlk := hl2 k hlt'
        have HS := Lib.hid (le_step l k hlt (by rw [HL.out]; omega))
        have HB := Lib.hid (be_step l k hlt (by rw [HL.out]; omega))
        have HX := Lib.hid hlt
        clear hlt hl2
        cases big
        all_goals
          simp only [numOf, if_true, if_false, Bool.false_eq_true]
          go_wp2
          go_round
          case rel => exact ⟨k + 1, HX.out, by go_num, by first | rw [HS.out] | rw [HB.out]⟩
          case measure => have := HX.out; simp [intOf]; omega
      · have hge := Nat.le_of_not_lt hlt
        have E2 := Lib.hid (List.take_of_length_le hge)
        rw [HL.out] at hge
        clear hlt hl2
        go_wp2
        go_ret
        exact ⟨by rw [E2.out]; rfl, HD.out⟩
end Go.Proofs.YtkomocgodljecaaGreatDoor
/- The cursor as an abstract state (bytes, place, which way round, failed), and what each method does to it. -/
namespace Go.Proofs.YtkomocgodljecaaGreatDoor
open Go.RowKit

structure CS where
  l : List UInt8
  at_ : Nat
  big : Bool
  failed : Bool
/-- The cursor at block b is in state s. -/
def CurB (w : World) (b : Nat) (s : CS) : Prop :=
  ∃ a n cap, w.heap[b]? = some (.cells #[.slice a n cap, .int .i64 s.at_, .bool s.big, .bool s.failed] 94 (0, 0)) ∧ n = s.l.length ∧ n ≤ cap ∧ cap ≤ maxLen ∧ n ≤ 140737488355328 ∧ s.at_ ≤ n ∧
    (0 < n → ∃ d off c, a = some ⟨d, off, none⟩ ∧ d < b ∧ w.heap[d]? = some (.cells c 5 (0, 0)) ∧ ∀ j, j < n → w.cell? ⟨d, off + j, none⟩ = some (.int .u8 (s.l.getD j 0).toNat))

theorem CurB.lt {w : World} {b : Nat} {s : CS} (h : CurB w b s) : b < w.heap.size := by
  obtain ⟨a, n, cap, hb, _⟩ := h; exact lt_of_heap hb
theorem CurB.at_le {w : World} {b : Nat} {s : CS} (h : CurB w b s) : s.at_ ≤ s.l.length := by
  obtain ⟨a, n, cap, hb, rfl, _, _, _, h, _⟩ := h; exact h
theorem CurB.frame {w w' : World} {b : Nat} {s : CS} (h : CurB w b s) (k : Chg [] w w') : CurB w' b s := by
  obtain ⟨a, n, cap, hb, h1, h2, h3, h4, h5, h6⟩ := h
  refine ⟨a, n, cap, k.heap hb (by simp), h1, h2, h3, h4, h5, fun hn => ?_⟩
  obtain ⟨d, off, c, ha, hdb, hd, hc⟩ := h6 hn
  exact ⟨d, off, c, ha, hdb, k.heap hd (by simp), fun j hj => k.cell (hc j hj) (by simp)⟩
/-- A store into one of the cursor's own cells but the first. -/
theorem CurB.store {w w' : World} {b : Nat} {s s' : CS} (h : CurB w b s) (j : Nat) (v : Value) (hd : Dr (w.setCell ⟨b, j, none⟩ v) w') (hl : s'.l = s.l) (hat : s'.at_ ≤ s.l.length)
    (hs : ∀ x, (#[x, .int .i64 s.at_, .bool s.big, .bool s.failed] : Array Value).setIfInBounds j v = #[x, .int .i64 s'.at_, .bool s'.big, .bool s'.failed]) : CurB w' b s' ∧ Chg [b] w w' := by
  obtain ⟨a, n, cap, hb, h1, h2, h3, h4, h5, h6⟩ := h
  have hc : Chg [b] w w' := ((Chg.refl [b] w).setCell ⟨b, j, none⟩ v (.inl (by simp))).dr hd
  refine ⟨⟨a, n, cap, ?_, by rw [hl]; exact h1, h2, h3, h4, by rw [h1]; exact hat, fun hn => ?_⟩, hc⟩
  · rw [hd.heap, heap_setCell hb, hs]
  · obtain ⟨d, off, c, ha, hdb, hd', hc'⟩ := h6 hn
    exact ⟨d, off, c, ha, hdb, hc.heap hd' (by simp; omega), fun j hj => by rw [hl]; exact hc.cell (hc' j hj) (by simp; omega)⟩

def failS (s : CS) : CS := { s with failed := true }
def seekS (s : CS) (at_ : Int) : CS := if 0 ≤ at_ ∧ at_ ≤ s.l.length then (if s.failed then s else { s with at_ := at_.toNat }) else failS s
def okSize (n : Int) : Bool := n = 1 ∨ n = 2 ∨ n = 4 ∨ n = 8
/-- May so many bytes be taken? -/
def canTake (s : CS) (n : Int) : Bool := !s.failed && decide (0 ≤ n ∧ n ≤ s.l.length - s.at_)
def takeS (s : CS) (n : Int) : CS := if canTake s n then { s with at_ := s.at_ + n.toNat } else failS s
def takeL (s : CS) (n : Int) : List UInt8 := if canTake s n then (s.l.drop s.at_).take n.toNat else []
def numberS (s : CS) (n : Int) : CS := if okSize n then takeS s n else failS s
def numberV (s : CS) (n : Int) : Nat := if okSize n then numOf s.big (takeL s n) else 0

theorem At_cur (b : Nat) (s : CS) (w : World) (h : CurB w b s) : Calls Tryz.prog 119 #[.pointer (some ⟨b, 0, none⟩)] w fun e w' => e = .returned (.int .i64 s.at_) ∧ w = w' := by
  obtain ⟨a, n, cap, hb, _⟩ := h
  exact At_any b _ _ _ _ w hb
theorem Left_cur (b : Nat) (s : CS) (w : World) (h : CurB w b s) :
    Calls Tryz.prog 31 #[.pointer (some ⟨b, 0, none⟩)] w fun e w' => e = .returned (.int .i64 ((s.l.length : Int) - s.at_)) ∧ Dr w w' := by
  obtain ⟨a, n, cap, hb, rfl, h2, h3, h4, h5, h6⟩ := h
  exact Left_any b _ _ _ _ _ _ w hb (by omega) h4 (by omega)
theorem Fail_cur (b : Nat) (s : CS) (w : World) (h : CurB w b s) :
    Calls Tryz.prog 76 #[.pointer (some ⟨b, 0, none⟩)] w fun e w' => e = .returned (.tuple #[]) ∧ CurB w' b (failS s) ∧ Chg [b] w w' := by
  have h' := h
  obtain ⟨a, n, cap, hb, _⟩ := h
  refine (Fail_any b _ _ _ _ w hb).mono fun e w' ⟨he, hw⟩ => ⟨he, ?_⟩
  subst hw
  exact h'.store 3 _ (Dr.refl _) rfl h'.at_le (fun x => rfl)
theorem well_cur (b : Nat) (s : CS) (is : Bool) (w : World) (h : CurB w b s) :
    Calls Tryz.prog 61 #[.pointer (some ⟨b, 0, none⟩), .bool is] w fun e w' => e = .returned (.bool (is && !s.failed)) ∧ CurB w' b (if is then s else failS s) ∧ Chg [b] w w' := by
  have h' := h
  obtain ⟨a, n, cap, hb, _⟩ := h
  refine (well_any b _ _ _ _ is w hb).mono fun e w' ⟨he, hw⟩ => ⟨he, ?_⟩
  subst hw
  cases is
  · exact h'.store 3 _ (Dr.refl _) rfl h'.at_le (fun x => rfl)
  · exact ⟨h', Chg.refl _ _⟩

theorem Seek_cur (b : Nat) (s : CS) (at_ : Int) (w : World) (h : CurB w b s) :
    Calls Tryz.prog 120 #[.pointer (some ⟨b, 0, none⟩), .int .i64 at_] w fun e w' => e = .returned (.tuple #[]) ∧ CurB w' b (seekS s at_) ∧ Chg [b] w w' := by
  have h' := h
  obtain ⟨a, n, cap, hb, h1, h2, h3, h4, h5, h6⟩ := h
  have hc0 := cell_of_heap hb 0
  have hc1 := cell_of_heap hb 1
  have f1 := frozen_of_heap hb 1
  simp at hc0 hc1
  have H1 := Lib.hid h1
  have hat := Lib.hid h'.at_le
  clear h1 h6
  unfold maxLen at h3
  have HP : Hid ((0 ≤ at_ ∧ at_ ≤ n) = (0 ≤ at_ ∧ at_ ≤ (s.l.length : Int))) := by rw [← H1.out]; exact rfl
  have H' := Lib.hid h'
  clear h'
  by_cases hi : 0 ≤ at_ ∧ at_ ≤ n
  · obtain ⟨hi1, hi2⟩ := hi
    have HC : Hid (0 ≤ at_ ∧ at_ ≤ (s.l.length : Int)) := by show _; rw [← H1.out]; exact ⟨hi1, hi2⟩
    cases hf : s.failed with
    | true =>
      rw [hf] at hb
      have HF := Lib.hid hf
      clear hf
      go_enter Tryz.func120, Tryz.ntmps120
      go_wp2_with fail
      refine (well_any b _ _ _ true true w hb).mono ?_
      rintro e w' ⟨rfl, rfl⟩
      go_wp2
      go_end0
      exact ⟨rfl, by unfold seekS; rw [if_pos HC.out, if_pos HF.out]; exact H'.out, Chg.refl _ _⟩
    | false =>
      rw [hf] at hb
      have HF := Lib.hid hf
      clear hf
      go_enter Tryz.func120, Tryz.ntmps120
      go_wp2_with fail
      refine (well_any b _ _ _ false true w hb).mono ?_
      rintro e w' ⟨rfl, rfl⟩
      go_wp2
      go_end0
      refine ⟨rfl, ?_⟩
      unfold seekS; rw [if_pos HC.out, if_neg (by rw [HF.out]; decide)]
      refine H'.out.store 1 _ (Dr.refl _) rfl (by have := HC.out; show at_.toNat ≤ _; omega) (fun x => ?_)
      simp; omega
  · have HC : Hid (¬ (0 ≤ at_ ∧ at_ ≤ (s.l.length : Int))) := by show ¬ _; rw [← H1.out]; exact hi
    have hn : at_ < 0 ∨ (0 ≤ at_ ∧ n < at_) := by omega
    clear hi
    have hdec : 0 ≤ at_ → decide (at_ ≤ (n : Int)) = false := fun h => by simp; omega
    rcases hn with hn | ⟨hn1, hn2⟩
    rotate_left
    have hdec := hdec hn1
    rotate_left
    all_goals
      go_enter Tryz.func120, Tryz.ntmps120
      go_wp2_with fail
      refine (well_cur b s false w H'.out).mono ?_
      rintro e w' ⟨rfl, hcur, hchg⟩
      simp only [Bool.false_and]
      have HR := Lib.hid hcur
      have HG := Lib.hid hchg
      clear hcur hchg
      go_wp2
      go_end0
      refine ⟨rfl, ?_, HG.out⟩
      have := HR.out
      unfold seekS; rw [if_neg HC.out]; simpa using this
end Go.Proofs.YtkomocgodljecaaGreatDoor
/- The cursor's Wrong and Err; New. -/
namespace Go.Proofs.YtkomocgodljecaaGreatDoor
open Go.RowKit

theorem Wrong_bad (b : Nat) (al : Value) (at_ : Int) (bg : Value) (w : World) (h : w.heap[b]? = some (.cells #[al, .int .i64 at_, bg, .bool true] 94 (0, 0))) :
    Calls Tryz.prog 96 #[.pointer (some ⟨b, 0, none⟩)] w fun e w' =>
      e = .returned (.iface 145 (.pointer (some ⟨w.heap.size, 0, none⟩))) ∧ w.alloc (.cells #[.int .i64 at_, .int .i64 3] 147) = w' := by
  have h1 := cell_of_heap h 1
  have h3 := cell_of_heap h 3
  clear h
  simp at h1 h3
  go_enter Tryz.func96, Tryz.ntmps96
  go_wp2
  go_ret
  exact ⟨rfl, rfl⟩
theorem Wrong_ok (b : Nat) (al at_ bg : Value) (w : World) (h : w.heap[b]? = some (.cells #[al, at_, bg, .bool false] 94 (0, 0))) :
    Calls Tryz.prog 96 #[.pointer (some ⟨b, 0, none⟩)] w fun e w' => e = .returned .nilIface ∧ w = w' := by
  have h3 := cell_of_heap h 3
  clear h
  simp at h3
  go_enter Tryz.func96, Tryz.ntmps96
  go_wp2
  go_ret
  exact ⟨rfl, rfl⟩

theorem Code_nil (w : World) : Calls Tryz.prog 95 #[.nilIface] w fun e w' => e = .returned (.int .i64 0) ∧ Chg [] w w' := by
  go_enter Tryz.func95, Tryz.ntmps95
  go_wp2
  go_ret
  exact ⟨rfl, (Chg.refl _ _).alloc _⟩
theorem Code_wrong (b : Nat) (at_ : Value) (n : Int) (w : World) (hg : Env w) (hb : w.heap[b]? = some (.cells #[at_, .int .i64 n] 147 (0, 0))) :
    Calls Tryz.prog 95 #[.iface 145 (.pointer (some ⟨b, 0, none⟩))] w fun e w' => e = .returned (.int .i64 n) ∧ Chg [] w w' := by
  have HG := Lib.hid (hg.frame ((Chg.refl [] w).alloc (.cells #[.int .i64 0] 35)) (by simp))
  have HB := Lib.hid (((Chg.refl [] w).alloc (.cells #[.int .i64 0] 35)).heap hb (by simp))
  have HT := Lib.hid (heap_alloc_eq w (.cells #[.int .i64 0] 35))
  clear hg hb
  go_enter Tryz.func95, Tryz.ntmps95
  go_wp2_with fail
  refine (as_wrong b w.heap.size at_ n (.int .i64 0) _ HG.out HT.out HB.out).mono ?_
  rintro e w1 ⟨rfl, ht, hc⟩
  have ht0 := cell_of_heap ht 0
  simp only [List.getElem?_toArray, List.getElem?_cons_zero] at ht0
  have HC := Lib.hid hc
  clear hc ht
  go_wp2
  go_ret
  exact ⟨rfl, ((Chg.refl [] w).alloc _).new HC.out (Nat.le_refl _)⟩

theorem Err_ok (b : Nat) (s : CS) (w : World) (h : CurB w b s) (hf : s.failed = false) :
    Calls Tryz.prog 71 #[.pointer (some ⟨b, 0, none⟩)] w fun e w' => e = .returned (.int .i64 0) ∧ Chg [] w w' := by
  obtain ⟨a, n, cap, hb, _⟩ := h
  rw [hf] at hb
  have HB := Lib.hid hb
  clear hb hf
  go_enter Tryz.func71, Tryz.ntmps71
  go_wp2_with fail
  refine (Wrong_ok b _ _ _ w HB.out).mono ?_
  rintro e w1 ⟨rfl, rfl⟩
  go_wp2_with fail
  refine (Code_nil w).mono ?_
  rintro e w1 ⟨rfl, hc⟩
  have HC := Lib.hid hc
  clear hc
  go_wp2
  go_ret
  exact ⟨rfl, HC.out⟩
theorem Err_bad (b : Nat) (s : CS) (w : World) (hg : Env w) (h : CurB w b s) (hf : s.failed = true) :
    Calls Tryz.prog 71 #[.pointer (some ⟨b, 0, none⟩)] w fun e w' => e = .returned (.int .i64 3) ∧ Chg [] w w' := by
  obtain ⟨a, n, cap, hb, _⟩ := h
  rw [hf] at hb
  have HB := Lib.hid hb
  have HG := Lib.hid hg
  clear hb hf hg
  go_enter Tryz.func71, Tryz.ntmps71
  go_wp2_with fail
  refine (Wrong_bad b _ _ _ w HB.out).mono ?_
  rintro e w1 ⟨rfl, rfl⟩
  go_wp2_with fail
  refine (Code_wrong _ _ 3 _ (HG.out.frame ((Chg.refl [] w).alloc _) (by simp)) (heap_alloc_eq w _)).mono ?_
  rintro e w1 ⟨rfl, hc⟩
  have HC := Lib.hid hc
  clear hc
  go_wp2
  go_ret
  exact ⟨rfl, ((Chg.refl [] w).alloc _).then HC.out⟩
theorem Clone_nil (n cap : Nat) (w : World) : Calls Tryz.prog 47 #[.slice none n cap] w fun e w' => e = .returned (.slice none 0 0) ∧ w = w' := by
  have hsn := @Lib.run_eql_slice_nil Tryz.prog
  go_enter Tryz.func47, Tryz.ntmps47
  go_wp2
  go_ret
  exact ⟨rfl, rfl⟩
end Go.Proofs.YtkomocgodljecaaGreatDoor
/- bytes.Clone and cursor.New. -/
namespace Go.Proofs.YtkomocgodljecaaGreatDoor
open Go.RowKit

theorem Clone_some (ad : Addr) (n cap : Nat) (xs : List Value) (w : World) (hl : n = xs.length) (hn : n ≤ 140737488355328) (h1 : ∀ u ∈ xs, u.oneCell' = true)
    (hc : ∀ j u, xs[j]? = some u → w.cell? (ad.add j) = some u) :
    Calls Tryz.prog 47 #[.slice (some ad) n cap] w fun e w' => ∃ v, e = .returned v ∧ w'.ownsRow w.heap.size 5 1 v n xs ∧ Chg [] w w' := by
  have hsn := @Lib.run_eql_slice_nil Tryz.prog
  obtain ⟨i0, hi, hz0, hz1, hz2⟩ := info_parts Tryz.infoU8
  have hcx : ∀ j u, xs[j]? = some u → (w.alloc (.cells #[] 5)).cell? (ad.add j) = some u := by
    intro j u hu
    have := hc j u hu
    rw [World.cell?_alloc_lt _ _ _ (World.block_lt_of_cell? _ _ this)]
    exact this
  have HC := Lib.hid hcx
  have HL := Lib.hid hl
  have H1 := Lib.hid h1
  clear hcx hl hc h1
  go_enter Tryz.func47, Tryz.ntmps47
  go_wp2_with (at_builtin; refine wpList_append_own _ rfl _ _ 34 rfl w.heap.size 5 i0 (.int .u8 0) 1 1 Tryz.underlying34 hi hz0 hz1 hz2 rfl (by decide) _ 0 [] rfl (World.ownsRow_made w #[] 0 (Nat.le_refl _) (by unfold maxLen; omega) rfl) ad n cap xs rfl ?c1 ?c2 ?c3 ?c4 ?c5 ?c6 ?_)
  case c1 => rw [HL.out, Nat.mul_one]
  case c2 => exact HC.out
  case c3 => exact H1.out
  case c4 => unfold maxLen; omega
  case c5 => omega
  case c6 => simp
  intro v' w1 hown hgrow _
  have HO := Lib.hid hown
  have HG := Lib.hid hgrow
  clear hown hgrow
  go_wp2
  go_ret
  refine ⟨_, rfl, ?_, ?_⟩
  · have := HO.out
    simpa using this
  · exact ((Chg.refl [] w).alloc _).grown HG.out (by intro k hk; simp [Value.ownBlock] at hk; exact .inr (by omega))

/-- cursor.New: a cursor of a copy, at its beginning. -/
theorem New_cur (v : Value) (l : List UInt8) (big : Bool) (w : World) (hv : Rd w v (bytesV l)) (hl : l.length ≤ 140737488355328) :
    Calls Tryz.prog 29 #[v, .bool big] w fun e w' => ∃ b, e = .returned (.pointer (some ⟨b, 0, none⟩)) ∧ w.heap.size ≤ b ∧ CurB w' b ⟨l, 0, big, false⟩ ∧ Chg [] w w' := by
  obtain ⟨a, n, cap, rfl, hn, hnc, hcm, hx⟩ := hv
  rw [bytesV_length] at hn
  subst hn
  cases a with
  | none =>
    have hnil : l = [] := by
      cases l with
      | nil => rfl
      | cons x r => obtain ⟨b, off, h, _⟩ := hx (by simp [bytesV]); cases h
    subst hnil
    clear hx hnc hcm hl
    go_enter Tryz.func29, Tryz.ntmps29
    go_wp2_with fail
    refine (Clone_nil _ _ w).mono ?_
    rintro e w1 ⟨rfl, rfl⟩
    go_wp2
    go_ret
    refine ⟨_, rfl, Nat.le_refl _, ⟨none, 0, 0, heap_alloc_eq w _, rfl, Nat.le_refl _, Nat.zero_le _, by omega, Nat.le_refl _, fun h => absurd h (by omega)⟩, (Chg.refl _ _).alloc _⟩
  | some ad =>
    have hc : ∀ j u, (bytesV l)[j]? = some u → w.cell? (ad.add j) = some u := by
      intro j u hu
      obtain ⟨hj, _⟩ := List.getElem?_eq_some_iff.1 hu
      obtain ⟨b, off, h, hcell⟩ := hx (by intro e; rw [e] at hj; simp at hj)
      cases h
      rw [Addr_add, hcell j hj, hu]
    have H1 : Hid (∀ u ∈ bytesV l, u.oneCell' = true) := by
      intro u hu
      obtain ⟨x, _, rfl⟩ := List.mem_map.1 hu
      rfl
    have HC := Lib.hid hc
    have HL := Lib.hid hl
    clear hx hc hnc hcm hl
    go_enter Tryz.func29, Tryz.ntmps29
    go_wp2_with fail
    refine (Clone_some ad _ cap (bytesV l) w (bytesV_length l).symm HL.out H1.out HC.out).mono ?_
    rintro e w1 ⟨v, rfl, hown, hchg⟩
    have HO := Lib.hid hown
    have HG := Lib.hid hchg
    have hsz := hchg.size
    obtain ⟨a', n', cap', rfl⟩ : ∃ a n c, v = Value.slice a n c := by
      rcases hown.2 with ⟨rfl, _⟩ | ⟨g, cap', cur, rfl, _⟩
      · exact ⟨_, _, _, rfl⟩
      · exact ⟨_, _, _, rfl⟩
    clear hown hchg
    go_wp2
    go_ret
    refine ⟨_, rfl, hsz, ?_, HG.out.alloc _⟩
    obtain ⟨hxl, hv⟩ := HO.out
    rw [Nat.mul_one] at hxl
    rcases hv with ⟨hv, h0⟩ | ⟨g, cap', cur, hv, hbg, hg, hnc, hcm, hcs, htake⟩
    · cases hv
      refine ⟨none, 0, 0, heap_alloc_eq w1 _, h0.symm, Nat.le_refl _, Nat.zero_le _, by omega, Nat.le_refl _, fun h => absurd h (by omega)⟩
    · cases hv
      have hgl := lt_of_heap hg
      refine ⟨_, _, _, heap_alloc_eq w1 _, rfl, hnc, hcm, HL.out, Nat.zero_le _, fun _ => ⟨g, 0, cur, rfl, by omega, by rw [heap_alloc_lt hgl]; exact hg, fun j hj => ?_⟩⟩
      rw [World.cell?_alloc_lt _ _ _ hgl, Nat.zero_add, cell_of_heap hg]
      have e1 : (cur.toList.take (l.length * 1))[j]? = (bytesV l)[j]? := by rw [htake]
      rw [List.getElem?_take, if_pos (by omega), bytesV_get l j hj] at e1
      simpa using e1
end Go.Proofs.YtkomocgodljecaaGreatDoor
