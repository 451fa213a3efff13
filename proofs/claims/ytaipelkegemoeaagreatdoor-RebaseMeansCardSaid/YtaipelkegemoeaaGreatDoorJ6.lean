/- Lemmas, laid together: part 6 of 46. Conditions: none but each lemma's own. -/
import Derived.Test.YtaipelkegemoeaaGreatDoorJ5
import Derived.Test.YtaipelkegemoeaaGreatDoorJ4
import Derived.Handy
import Derived.Lib.Bytealg
import Derived.Test.YtaipelkegemoeaaGreatDoorJ1
import Derived.Shelf.LaysM
import Derived.Shelf.Bytes.SlIndexAt
import Derived.Shelf.Bytes.IndexByte
import Derived.Test.YtaipelkegemoeaaGreatDoorProg
import Derived.Laws.BytesString
import Derived.StillTailTactics
import Derived.Deep.QuietTactic
import Derived.BigQuiet
import Derived.Maps.AppendAt
/- take and Number on the cursor's abstract state. -/
namespace Go.Proofs.YtaipelkegemoeaaGreatDoor
open Go.RowKit

theorem failS_of {s : CS} (h : s.failed = true) : failS s = s := by cases s; simp_all [failS]
theorem canTake_of {s : CS} {n : Int} (hf : s.failed = false) (h0 : 0 ≤ n) (h1 : n ≤ s.l.length - s.at_) : canTake s n = true := by simp [canTake, hf, h0, h1]
theorem takeS_no {s : CS} {n : Int} (h : canTake s n = false) : takeS s n = failS s := by simp [takeS, h]
theorem takeL_no {s : CS} {n : Int} (h : canTake s n = false) : takeL s n = [] := by simp [takeL, h]
theorem canTake_spec {s : CS} {n : Int} (h : canTake s n = true) : s.failed = false ∧ 0 ≤ n ∧ n ≤ s.l.length - s.at_ := by simpa [canTake] using h
theorem takeL_length {s : CS} {n : Int} (hc : s.at_ ≤ s.l.length) (h : canTake s n = true) : (takeL s n).length = n.toNat := by
  obtain ⟨_, h0, h1⟩ := canTake_spec h
  simp [takeL, h]; omega
theorem takeL_get {s : CS} {n : Int} (h : canTake s n = true) (j : Nat) (hj : j < n.toNat) : (takeL s n).getD j 0 = s.l.getD (s.at_ + j) 0 := by
  simp [takeL, h, hj]

/-- Where not so many stand there, or it has failed: none. -/
theorem take_no (b : Nat) (s : CS) (m : Int) (w : World) (h : CurB w b s) (hno : canTake s m = false) :
    Calls Tryz.prog 44 #[.pointer (some ⟨b, 0, none⟩), .int .i64 m] w fun e w' => e = .returned (.slice none 0 0) ∧ CurB w' b (failS s) ∧ Chg [b] w w' := by
  have hle := h.at_le
  by_cases h0 : 0 ≤ m
  · by_cases h1 : m ≤ s.l.length - s.at_
    · have hf : s.failed = true := by
        cases hf : s.failed with
        | true => rfl
        | false => rw [canTake_of hf h0 h1] at hno; exact absurd hno (by decide)
      have HF := Lib.hid hf
      have H := Lib.hid h
      clear hf hno h
      go_enter Tryz.func44, Tryz.ntmps44
      go_wp2_with fail
      refine (Left_cur b s w H.out).mono ?_
      rintro e w1 ⟨rfl, hd⟩
      have H1 := Lib.hid (H.out.frame ((Chg.refl [] w).dr hd))
      have HD := Lib.hid hd
      clear hd
      go_wp2_with fail
      refine (well_cur b s true w1 H1.out).mono ?_
      rintro e w' ⟨rfl, hcur, hchg⟩
      rw [HF.out]
      have HR := Lib.hid hcur
      have HG := Lib.hid hchg
      clear hcur hchg
      go_wp2
      go_ret
      exact ⟨rfl, by rw [failS_of HF.out]; exact HR.out, ((Chg.refl [b] w).dr HD.out).same HG.out⟩
    · have hdec : decide (m ≤ (s.l.length : Int) - s.at_) = false := by simpa using h1
      have H := Lib.hid h
      clear hno h h1
      go_enter Tryz.func44, Tryz.ntmps44
      go_wp2_with fail
      refine (Left_cur b s w H.out).mono ?_
      rintro e w1 ⟨rfl, hd⟩
      have H1 := Lib.hid (H.out.frame ((Chg.refl [] w).dr hd))
      have HD := Lib.hid hd
      clear hd
      go_wp2_with fail
      refine (well_cur b s false w1 H1.out).mono ?_
      rintro e w' ⟨rfl, hcur, hchg⟩
      have HR := Lib.hid hcur
      have HG := Lib.hid hchg
      clear hcur hchg
      simp only [Bool.false_and]
      go_wp2
      go_ret
      exact ⟨rfl, by simpa using HR.out, ((Chg.refl [b] w).dr HD.out).same HG.out⟩
  · have H := Lib.hid h
    clear hno h
    go_enter Tryz.func44, Tryz.ntmps44
    go_wp2_with fail
    refine (well_cur b s false w H.out).mono ?_
    rintro e w' ⟨rfl, hcur, hchg⟩
    have HR := Lib.hid hcur
    have HG := Lib.hid hchg
    clear hcur hchg
    simp only [Bool.false_and]
    go_wp2
    go_ret
    exact ⟨rfl, by simpa using HR.out, HG.out⟩

theorem Number_cur (b : Nat) (s : CS) (m : Int) (w : World) (h : CurB w b s) :
    Calls Tryz.prog 25 #[.pointer (some ⟨b, 0, none⟩), .int .i64 m] w fun e w' => e = .returned (.int .u64 (numberV s m)) ∧ CurB w' b (numberS s m) ∧ Chg [b] w w' := by
  cases hok : okSize m with
  | false =>
    have h1 : ¬ m = 1 ∧ ¬ m = 2 ∧ ¬ m = 4 ∧ ¬ m = 8 := by simpa [okSize] using hok
    obtain ⟨h1, h2, h3, h4⟩ := h1
    have e1 : (m == 1) = false := by simpa using h1
    have e2 : (m == 2) = false := by simpa using h2
    have e4 : (m == 4) = false := by simpa using h3
    have e8 : (m == 8) = false := by simpa using h4
    have H := Lib.hid h
    have HO := Lib.hid hok
    clear h h1 h2 h3 h4 hok
    go_enter Tryz.func25, Tryz.ntmps25
    go_wp2_with fail
    refine (well_cur b s false w H.out).mono ?_
    rintro e w' ⟨rfl, hcur, hchg⟩
    have HR := Lib.hid hcur
    have HG := Lib.hid hchg
    clear hcur hchg
    simp only [Bool.false_and]
    go_wp2
    go_ret
    exact ⟨by unfold numberV; rw [HO.out]; rfl, by unfold numberS; rw [HO.out]; simpa using HR.out, HG.out⟩
  | true =>
    have hm : m = 1 ∨ m = 2 ∨ m = 4 ∨ m = 8 := by simpa [okSize] using hok
    cases hcan : canTake s m with
    | false =>
      have ev : numberV s m = 0 := by unfold numberV; rw [takeL_no hcan]; unfold numOf; split <;> (try split) <;> rfl
      have es : numberS s m = failS s := by unfold numberS; rw [hok, if_pos rfl, takeS_no hcan]
      rw [ev, es]
      clear ev es hok
      have H := Lib.hid h
      have HC := Lib.hid hcan
      clear h hcan
      rcases hm with rfl | rfl | rfl | rfl
      all_goals
        go_enter Tryz.func25, Tryz.ntmps25
        go_wp2_with fail
        refine (well_cur b s true w H.out).mono ?_
        rintro e w1 ⟨rfl, hcur, hchg⟩
        have HR := Lib.hid hcur
        have HG := Lib.hid hchg
        clear hcur hchg
        cases hf : s.failed with
        | true =>
          have HF := Lib.hid hf
          clear hf
          go_wp2
          go_ret
          exact ⟨rfl, by rw [failS_of HF.out]; exact HR.out, HG.out⟩
        | false =>
          have HF := Lib.hid hf
          clear hf
          go_wp2_with fail
          refine (take_no b s _ w1 HR.out HC.out).mono ?_
          rintro e w2 ⟨rfl, hcur, hchg⟩
          have HR2 := Lib.hid hcur
          have HG2 := Lib.hid hchg
          clear hcur hchg
          go_wp2
          refine wp_loop_rounds 1 ?_
          rw [rounds_succ]
          go_wp2
          go_ret
          exact ⟨rfl, HR2.out, HG.out.same HG2.out⟩
    | true =>
      have h' := h
      obtain ⟨hf, h0, h1⟩ := canTake_spec hcan
      obtain ⟨a, n, cap, hb, rfl, h2, h3, h4, h5, h6⟩ := h
      rw [hf] at hb
      obtain ⟨d, off, c, rfl, hdb, hd', hc'⟩ := h6 (by omega)
      obtain ⟨M, rfl⟩ : ∃ M : Nat, m = M := ⟨m.toNat, by omega⟩
      have hlen := takeL_length h'.at_le hcan
      refine (number_some b d off _ cap s.at_ M s.big (takeL s M) w hb h4 h2 h3 (by omega) (by omega) (by omega) (by simpa using hlen) (fun j hj => ?_)).mono fun e w' ⟨he, hd⟩ => ?_
      · rw [takeL_get hcan j (by simpa using hj), Nat.add_assoc]
        exact hc' (s.at_ + j) (by omega)
      · have e1 : numberS s M = takeS s M := by unfold numberS; rw [hok, if_pos rfl]
        have e2 : numberV s M = numOf s.big (takeL s M) := by unfold numberV; rw [hok, if_pos rfl]
        rw [e1, e2]
        exact ⟨he, h'.store (s' := takeS s M) 1 _ hd (by unfold takeS; rw [if_pos hcan]) (by unfold takeS; rw [if_pos hcan]; show s.at_ + (M : Int).toNat ≤ _; omega) (fun x => by
          unfold takeS; rw [if_pos hcan]; simp [hf])⟩
end Go.Proofs.YtaipelkegemoeaaGreatDoor
/- Plain: where a text ends; bytes as two kinds of rows. -/
namespace Go.Proofs.YtaipelkegemoeaaGreatDoor
open Go.RowKit
set_option maxRecDepth 100000

/-- A row of bytes reads as their values. -/
theorem Rd_of_byte {w : World} {v : Value} {l : List UInt8} (h : byteL.Rd w v l) : Rd w v (bytesV l) := by
  obtain ⟨a, n, cap, rfl, hn, hc, hm, hx⟩ := h
  refine ⟨a, n, cap, rfl, by rw [bytesV_length]; exact hn, hc, hm, fun hne => ?_⟩
  obtain ⟨b, off, e, _, hcell⟩ := hx (by rintro rfl; exact hne rfl)
  refine ⟨b, off, e, fun j hj => ?_⟩
  rw [bytesV_length] at hj
  have := hcell j hj 0 (by decide)
  rw [show byteL.n = 1 from rfl, Nat.mul_one, Nat.add_zero] at this
  rw [this, bytesV_get l j hj]
  rfl
theorem Rd_to_byte {w : World} {v : Value} {l : List UInt8} (h : Rd w v (bytesV l)) : byteL.Rd w v l := by
  obtain ⟨a, n, cap, rfl, hn, hc, hm, hx⟩ := h
  rw [bytesV_length] at hn hx
  refine ⟨a, n, cap, rfl, hn, hc, hm, fun hne => ?_⟩
  obtain ⟨b, off, e, hcell⟩ := hx (by
    intro e
    have := congrArg List.length e
    rw [bytesV_length] at this
    exact hne (List.eq_nil_of_length_eq_zero this))
  have hp : 0 < l.length := List.length_pos_iff.2 hne
  refine ⟨b, off, e, ?_, fun j hj c hc => ?_⟩
  · have h0 := hcell 0 hp
    rw [bytesV_get l 0 hp] at h0
    exact World.block_lt_of_cell? w _ h0
  · have hc0 : c = 0 := by have : byteL.n = 1 := rfl; omega
    subst hc0
    rw [show byteL.n = 1 from rfl, Nat.mul_one, Nat.add_zero, hcell j hj, bytesV_get l j hj]
    rfl
end Go.Proofs.YtaipelkegemoeaaGreatDoor
/- The cursor's Wrong and Err; New. -/
namespace Go.Proofs.YtaipelkegemoeaaGreatDoor
open Go.RowKit

theorem Wrong_bad (b : Nat) (al : Value) (at_ : Int) (bg : Value) (w : World) (h : w.heap[b]? = some (.cells #[al, .int .i64 at_, bg, .bool true] 95 (0, 0))) :
    Calls Tryz.prog 70 #[.pointer (some ⟨b, 0, none⟩)] w fun e w' =>
      e = .returned (.iface 152 (.pointer (some ⟨w.heap.size, 0, none⟩))) ∧ w.alloc (.cells #[.int .i64 at_, .int .i64 3] 154) = w' := by
  have h1 := cell_of_heap h 1
  have h3 := cell_of_heap h 3
  clear h
  simp at h1 h3
  go_enter Tryz.func70, Tryz.ntmps70
  go_wp2
  go_ret
  exact ⟨rfl, rfl⟩
theorem Wrong_ok (b : Nat) (al at_ bg : Value) (w : World) (h : w.heap[b]? = some (.cells #[al, at_, bg, .bool false] 95 (0, 0))) :
    Calls Tryz.prog 70 #[.pointer (some ⟨b, 0, none⟩)] w fun e w' => e = .returned .nilIface ∧ w = w' := by
  have h3 := cell_of_heap h 3
  clear h
  simp at h3
  go_enter Tryz.func70, Tryz.ntmps70
  go_wp2
  go_ret
  exact ⟨rfl, rfl⟩

theorem Code_nil (w : World) : Calls Tryz.prog 69 #[.nilIface] w fun e w' => e = .returned (.int .i64 0) ∧ Chg [] w w' := by
  go_enter Tryz.func69, Tryz.ntmps69
  go_wp2
  go_ret
  exact ⟨rfl, (Chg.refl _ _).alloc _⟩
theorem Code_wrong (b : Nat) (at_ : Value) (n : Int) (w : World) (hg : Env w) (hb : w.heap[b]? = some (.cells #[at_, .int .i64 n] 154 (0, 0))) :
    Calls Tryz.prog 69 #[.iface 152 (.pointer (some ⟨b, 0, none⟩))] w fun e w' => e = .returned (.int .i64 n) ∧ Chg [] w w' := by
  have HG := Lib.hid (hg.frame ((Chg.refl [] w).alloc (.cells #[.int .i64 0] 36)) (by simp))
  have HB := Lib.hid (((Chg.refl [] w).alloc (.cells #[.int .i64 0] 36)).heap hb (by simp))
  have HT := Lib.hid (heap_alloc_eq w (.cells #[.int .i64 0] 36))
  clear hg hb
  go_enter Tryz.func69, Tryz.ntmps69
  go_wp2_with fail
  refine (as_wrong b w.heap.size at_ n (.int .i64 0) _ HG.out HT.out HB.out).mono ?_
  rintro e w1 ⟨rfl, ht, hc⟩
  have ht0 := cell_of_heap ht 0
  simp only [List.getElem?_toArray, List.getElem?_cons_zero] at ht0
  have HC := Lib.hid hc
  clear hc ht
  go_wp2
  go_ret
  exact ⟨rfl, ((Chg.refl [] w).alloc _).new HC.out (Nat.le_refl _)⟩

theorem Err_ok (b : Nat) (s : CS) (w : World) (h : CurB w b s) (hf : s.failed = false) :
    Calls Tryz.prog 47 #[.pointer (some ⟨b, 0, none⟩)] w fun e w' => e = .returned (.int .i64 0) ∧ Chg [] w w' := by
  obtain ⟨a, n, cap, hb, _⟩ := h
  rw [hf] at hb
  have HB := Lib.hid hb
  clear hb hf
  go_enter Tryz.func47, Tryz.ntmps47
  go_wp2_with fail
  refine (Wrong_ok b _ _ _ w HB.out).mono ?_
  rintro e w1 ⟨rfl, rfl⟩
  go_wp2_with fail
  refine (Code_nil w).mono ?_
  rintro e w1 ⟨rfl, hc⟩
  have HC := Lib.hid hc
  clear hc
  go_wp2
  go_ret
  exact ⟨rfl, HC.out⟩
theorem Err_bad (b : Nat) (s : CS) (w : World) (hg : Env w) (h : CurB w b s) (hf : s.failed = true) :
    Calls Tryz.prog 47 #[.pointer (some ⟨b, 0, none⟩)] w fun e w' => e = .returned (.int .i64 3) ∧ Chg [] w w' := by
  obtain ⟨a, n, cap, hb, _⟩ := h
  rw [hf] at hb
  have HB := Lib.hid hb
  have HG := Lib.hid hg
  clear hb hf hg
  go_enter Tryz.func47, Tryz.ntmps47
  go_wp2_with fail
  refine (Wrong_bad b _ _ _ w HB.out).mono ?_
  rintro e w1 ⟨rfl, rfl⟩
  go_wp2_with fail
  refine (Code_wrong _ _ 3 _ (HG.out.frame ((Chg.refl [] w).alloc _) (by simp)) (heap_alloc_eq w _)).mono ?_
  rintro e w1 ⟨rfl, hc⟩
  have HC := Lib.hid hc
  clear hc
  go_wp2
  go_ret
  exact ⟨rfl, ((Chg.refl [] w).alloc _).then HC.out⟩
theorem Tryz.infoU8 : (Tryz.prog.info? 5).map (fun i => (i.zero, i.size, i.bytes)) = some (some (.int .u8 0), 1, 1) := by kernel_rfl

theorem Clone_nil (n cap : Nat) (w : World) : Calls Tryz.prog 42 #[.slice none n cap] w fun e w' => e = .returned (.slice none 0 0) ∧ w = w' := by
  have hsn := @Lib.run_eql_slice_nil Tryz.prog
  go_enter Tryz.func42, Tryz.ntmps42
  go_wp2
  go_ret
  exact ⟨rfl, rfl⟩
end Go.Proofs.YtaipelkegemoeaaGreatDoor
/- bytes.Clone and cursor.New. -/
namespace Go.Proofs.YtaipelkegemoeaaGreatDoor
open Go.RowKit

theorem Addr_add (b off j : Nat) : (⟨b, off, none⟩ : Addr).add j = ⟨b, off + j, none⟩ := by
  unfold Addr.add; split <;> simp_all

theorem Clone_some (ad : Addr) (n cap : Nat) (xs : List Value) (w : World) (hl : n = xs.length) (hn : n ≤ 140737488355328) (h1 : ∀ u ∈ xs, u.oneCell' = true)
    (hc : ∀ j u, xs[j]? = some u → w.cell? (ad.add j) = some u) :
    Calls Tryz.prog 42 #[.slice (some ad) n cap] w fun e w' => ∃ v, e = .returned v ∧ w'.ownsRow w.heap.size 5 1 v n xs ∧ Chg [] w w' := by
  have hsn := @Lib.run_eql_slice_nil Tryz.prog
  obtain ⟨i0, hi, hz0, hz1, hz2⟩ := info_parts Tryz.infoU8
  have hcx : ∀ j u, xs[j]? = some u → (w.alloc (.cells #[] 5)).cell? (ad.add j) = some u := by
    intro j u hu
    have := hc j u hu
    rw [World.cell?_alloc_lt _ _ _ (World.block_lt_of_cell? _ _ this)]
    exact this
  have HC := Lib.hid hcx
  have HL := Lib.hid hl
  have H1 := Lib.hid h1
  clear hcx hl hc h1
  go_enter Tryz.func42, Tryz.ntmps42
  go_wp2_with (at_builtin; refine wpList_append_own _ rfl _ _ 22 rfl w.heap.size 5 i0 (.int .u8 0) 1 1 Tryz.underlying22 hi hz0 hz1 hz2 rfl (by decide) _ 0 [] rfl (World.ownsRow_made w #[] 0 (Nat.le_refl _) (by unfold maxLen; omega) rfl) ad n cap xs rfl ?c1 ?c2 ?c3 ?c4 ?c5 ?c6 ?_)
  case c1 => rw [HL.out, Nat.mul_one]
  case c2 => exact HC.out
  case c3 => exact H1.out
  case c4 => unfold maxLen; omega
  case c5 => omega
  case c6 => simp
  intro v' w1 hown hgrow _
  have HO := Lib.hid hown
  have HG := Lib.hid hgrow
  clear hown hgrow
  go_wp2
  go_ret
  refine ⟨_, rfl, ?_, ?_⟩
  · have := HO.out
    simpa using this
  · exact ((Chg.refl [] w).alloc _).grown HG.out (by intro k hk; simp [Value.ownBlock] at hk; exact .inr (by omega))

/-- cursor.New: a cursor of a copy, at its beginning. -/
theorem New_cur (v : Value) (l : List UInt8) (big : Bool) (w : World) (hv : Rd w v (bytesV l)) (hl : l.length ≤ 140737488355328) :
    Calls Tryz.prog 23 #[v, .bool big] w fun e w' => ∃ b, e = .returned (.pointer (some ⟨b, 0, none⟩)) ∧ w.heap.size ≤ b ∧ CurB w' b ⟨l, 0, big, false⟩ ∧ Chg [] w w' := by
  obtain ⟨a, n, cap, rfl, hn, hnc, hcm, hx⟩ := hv
  rw [bytesV_length] at hn
  subst hn
  cases a with
  | none =>
    have hnil : l = [] := by
      cases l with
      | nil => rfl
      | cons x r => obtain ⟨b, off, h, _⟩ := hx (by simp [bytesV]); cases h
    subst hnil
    clear hx hnc hcm hl
    go_enter Tryz.func23, Tryz.ntmps23
    go_wp2_with fail
    refine (Clone_nil _ _ w).mono ?_
    rintro e w1 ⟨rfl, rfl⟩
    go_wp2
    go_ret
    refine ⟨_, rfl, Nat.le_refl _, ⟨none, 0, 0, heap_alloc_eq w _, rfl, Nat.le_refl _, Nat.zero_le _, by omega, Nat.le_refl _, fun h => absurd h (by omega)⟩, (Chg.refl _ _).alloc _⟩
  | some ad =>
    have hc : ∀ j u, (bytesV l)[j]? = some u → w.cell? (ad.add j) = some u := by
      intro j u hu
      obtain ⟨hj, _⟩ := List.getElem?_eq_some_iff.1 hu
      obtain ⟨b, off, h, hcell⟩ := hx (by intro e; rw [e] at hj; simp at hj)
      cases h
      rw [Addr_add, hcell j hj, hu]
    have H1 : Hid (∀ u ∈ bytesV l, u.oneCell' = true) := by
      intro u hu
      obtain ⟨x, _, rfl⟩ := List.mem_map.1 hu
      rfl
    have HC := Lib.hid hc
    have HL := Lib.hid hl
    clear hx hc hnc hcm hl
    go_enter Tryz.func23, Tryz.ntmps23
    go_wp2_with fail
    refine (Clone_some ad _ cap (bytesV l) w (bytesV_length l).symm HL.out H1.out HC.out).mono ?_
    rintro e w1 ⟨v, rfl, hown, hchg⟩
    have HO := Lib.hid hown
    have HG := Lib.hid hchg
    have hsz := hchg.size
    obtain ⟨a', n', cap', rfl⟩ : ∃ a n c, v = Value.slice a n c := by
      rcases hown.2 with ⟨rfl, _⟩ | ⟨g, cap', cur, rfl, _⟩
      · exact ⟨_, _, _, rfl⟩
      · exact ⟨_, _, _, rfl⟩
    clear hown hchg
    go_wp2
    go_ret
    refine ⟨_, rfl, hsz, ?_, HG.out.alloc _⟩
    obtain ⟨hxl, hv⟩ := HO.out
    rw [Nat.mul_one] at hxl
    rcases hv with ⟨hv, h0⟩ | ⟨g, cap', cur, hv, hbg, hg, hnc, hcm, hcs, htake⟩
    · cases hv
      refine ⟨none, 0, 0, heap_alloc_eq w1 _, h0.symm, Nat.le_refl _, Nat.zero_le _, by omega, Nat.le_refl _, fun h => absurd h (by omega)⟩
    · cases hv
      have hgl := lt_of_heap hg
      refine ⟨_, _, _, heap_alloc_eq w1 _, rfl, hnc, hcm, HL.out, Nat.zero_le _, fun _ => ⟨g, 0, cur, rfl, by omega, by rw [heap_alloc_lt hgl]; exact hg, fun j hj => ?_⟩⟩
      rw [World.cell?_alloc_lt _ _ _ hgl, Nat.zero_add, cell_of_heap hg]
      have e1 : (cur.toList.take (l.length * 1))[j]? = (bytesV l)[j]? := by rw [htake]
      rw [List.getElem?_take, if_pos (by omega), bytesV_get l j hj] at e1
      simpa using e1
end Go.Proofs.YtaipelkegemoeaaGreatDoor
/- load.open. -/
namespace Go.Proofs.YtaipelkegemoeaaGreatDoor
open Go.RowKit
set_option maxRecDepth 100000

/-- A number of four bytes that stands at a place. -/
def n4 (l : List UInt8) (p : Nat) : Nat := leNum ((l.drop p).take 4)
theorem n4_lt (l : List UInt8) (p : Nat) : n4 l p < 4294967296 := by
  have h := leNum_lt ((l.drop p).take 4)
  have h2 : ((l.drop p).take 4).length ≤ 4 := by rw [List.length_take]; omega
  have h3 : 256 ^ ((l.drop p).take 4).length ≤ 256 ^ 4 := Nat.pow_le_pow_right (by decide) h2
  unfold n4
  omega
end Go.Proofs.YtaipelkegemoeaaGreatDoor
/- Contracts of the library, proved once in the kit, laid at this seat's program (made by the kit's tools lay-shelf and lay-plain). -/
namespace Go.Proofs
open Go.Shelf
end Go.Proofs
/- Bytes as a string; a part of a row of bytes. -/
namespace Go.Proofs.YtaipelkegemoeaaGreatDoor
open Go.RowKit
set_option maxRecDepth 100000

theorem foldl_push' (ns : List Int) (s : ByteArray) : ns.foldl (fun r n => r.push (UInt8.ofNat n.toNat)) s = ⟨s.data ++ (ns.map fun n => UInt8.ofNat n.toNat).toArray⟩ := by
  induction ns generalizing s with
  | nil => simp
  | cons n r ih => simp only [List.foldl_cons, ih]; simp [ByteArray.push]
/-- string(v), v a slice of bytes. -/
theorem run_strB {w : World} {a : Option Addr} {n cap : Nat} {l : List UInt8} (h : byteL.Rd w (.slice a n cap) l) :
    (convert 22 9 (.slice a n cap)).run Tryz.prog w = .ok (.string ⟨l.toArray⟩) w := by
  rw [run_convert_bytes_string (P := Tryz.prog) w 22 9 5 a n cap Tryz.underlying22 Tryz.underlying5 Tryz.underlying9]
  cases a with
  | none =>
    obtain ⟨a', n', cap', he, hn, hnc, hcm, hx⟩ := h
    cases he
    have hnil : l = [] := by
      cases l with
      | nil => rfl
      | cons x r => obtain ⟨b, off, h, _⟩ := hx (by simp); cases h
    subst hnil
    subst hn
    rfl
  | some ad =>
    obtain ⟨hn, hc⟩ := Lay.Rd.cells h
    subst hn
    have hload : (loadCells ad l.length).run Tryz.prog w = .ok ((l.map fun x => (x.toNat : Int)).map (Value.int .u8)).toArray w := by
      have hxs : (l.map fun x => (x.toNat : Int)).map (Value.int .u8) = byteL.vals l := by rw [byte_vals]; simp [Function.comp_def]
      rw [hxs]
      have := run_loadCells_list (P := Tryz.prog) (w := w) ad (byteL.vals l) (fun j u hu => hc j u hu)
      rw [Lay.vals_len, show byteL.n = 1 from rfl, Nat.mul_one] at this
      exact this
    rw [run_bytesToString w ad l.length cap _ hload, foldl_push']
    have e : (l.map fun x => (x.toNat : Int)).map (fun n => UInt8.ofNat n.toNat) = l := by
      rw [List.map_map]
      conv => rhs; rw [← List.map_id l]
      refine List.map_congr_left fun x _ => ?_
      simp
    rw [e]
    simp
/-- A part of a row. -/
theorem Rd_sub {w : World} {b off n cap : Nat} {l : List UInt8} (h : byteL.Rd w (.slice (some ⟨b, off, none⟩) n cap) l) (k m c : Nat) (hk : k + m ≤ l.length) (hm : m ≤ c) (hc : c ≤ maxLen) : byteL.Rd w (.slice (some ⟨b, off + k, none⟩) m c) ((l.drop k).take m) := by
  obtain ⟨a', n', cap', he, hn, _, _, hx⟩ := h
  cases he
  have hl : ((l.drop k).take m).length = m := by rw [List.length_take, List.length_drop]; omega
  refine ⟨_, _, _, rfl, hl.symm, hm, hc, fun hne => ?_⟩
  have hne2 : l ≠ [] := by rintro rfl; simp at hne
  obtain ⟨b', off', e, hb, hcell⟩ := hx hne2
  cases e
  refine ⟨_, _, rfl, hb, fun j hj c hc => ?_⟩
  rw [hl] at hj
  have := hcell (k + j) (by omega) c hc
  have hg : ((l.drop k).take m).getD j byteL.d = l.getD (k + j) byteL.d := by
    simp [List.getD_eq_getElem?_getD, List.getElem?_drop, hj]
  rw [hg, ← this]
  congr 2
  show off + k + j * 1 + c = off + (k + j) * 1 + c
  omega
end Go.Proofs.YtaipelkegemoeaaGreatDoor
/- cursor.Text, walked. -/
namespace Go.Proofs.YtaipelkegemoeaaGreatDoor
open Go.RowKit
set_option maxRecDepth 100000

end Go.Proofs.YtaipelkegemoeaaGreatDoor
/- cursor.Field: bytes up to the first zero (bytes.Cut at a separator of one byte). -/
namespace Go.Proofs.YtaipelkegemoeaaGreatDoor
open Go.RowKit
set_option maxRecDepth 100000

/-- The bytes ahead of the first zero, or all. -/
def cutZ (l : List UInt8) : List UInt8 := if 0 ≤ Lib.indexByte l 0 then l.take (Lib.indexByte l 0).toNat else l
end Go.Proofs.YtaipelkegemoeaaGreatDoor
/- Lemmas on memory: rows of the call's own, append, bytes as a string, cursors carried along. -/
namespace Go.Proofs.YtaipelkegemoeaaGreatDoor
open Go.RowKit
set_option maxRecDepth 100000

theorem env_ne {w : World} {b : Nat} {s : CS} (hg : Env w) (h : CurB w b s) : b ≠ 1 := by
  rintro rfl
  obtain ⟨_, _, _, hb, _⟩ := h
  have h0 := cell_of_heap hb 0
  unfold Env at hg
  rw [hg] at h0
  simp at h0
theorem env_ne_int {w : World} {b : Nat} {K : IntKind} {a : Int} {T : TypeId} {fz : Nat × Nat} (hg : Env w) (h : w.heap[b]? = some (.cells #[.int K a] T fz)) : b ≠ 1 := by
  rintro rfl
  have h0 := cell_of_heap h 0
  unfold Env at hg
  rw [hg] at h0
  simp at h0
theorem owned_frame {w w' : World} {base : Nat} {e : TypeId} {size : Nat} {v : Value} {n : Nat} {xs : List Value} (h : w.ownsRow base e size v n xs) {S : List Nat} (k : Chg S w w') (hn : ∀ b, v.ownBlock = some b → b ∉ S) : w'.ownsRow base e size v n xs := by
  refine ⟨h.1, ?_⟩
  rcases h.2 with hn' | ⟨g, cap, cur, rfl, hb, hgg, rest⟩
  · exact .inl hn'
  · exact .inr ⟨g, cap, cur, rfl, hb, k.heap hgg (hn g rfl), rest⟩
theorem owned_base {w : World} {base base' : Nat} {e : TypeId} {size : Nat} {v : Value} {n : Nat} {xs : List Value} (h : w.ownsRow base e size v n xs) (hb : base' ≤ base) : w.ownsRow base' e size v n xs := by
  refine ⟨h.1, ?_⟩
  rcases h.2 with hn' | ⟨g, cap, cur, rfl, hb', hgg, rest⟩
  · exact .inl hn'
  · exact .inr ⟨g, cap, cur, rfl, by omega, hgg, rest⟩
theorem bytesV_append (a b : List UInt8) : bytesV (a ++ b) = bytesV a ++ bytesV b := by simp [bytesV]

/-- A buffer of the call's own: its bytes. -/
def Buf (w : World) (base : Nat) (v : Value) (l : List UInt8) : Prop := w.ownsRow base 5 1 v l.length (bytesV l)
theorem Buf.mk' {w : World} {base n : Nat} {v : Value} {l : List UInt8} (h : w.ownsRow base 5 1 v n (bytesV l)) : Buf w base v l := by
  have : n = l.length := by have := h.1; rw [bytesV_length] at this; omega
  subst this; exact h
theorem Buf.nil (w : World) (base : Nat) : Buf w base (.slice none 0 0) [] := World.ownsRow_nil w base 5 1
theorem Buf.frame {w w' : World} {base : Nat} {v : Value} {l : List UInt8} (h : Buf w base v l) {S : List Nat} (k : Chg S w w') (hn : ∀ b, v.ownBlock = some b → b ∉ S) : Buf w' base v l := owned_frame h k hn
theorem Buf.pure {w w' : World} {base : Nat} {v : Value} {l : List UInt8} (h : Buf w base v l) (k : Chg [] w w') : Buf w' base v l := h.frame k (fun _ _ hm => by cases hm)
theorem Buf.rd {w : World} {base : Nat} {v : Value} {l : List UInt8} (h : Buf w base v l) : Rd w v (bytesV l) := Rd.owned h
theorem Buf.app {w' : World} {base : Nat} {v : Value} {l m : List UInt8} (h : w'.ownsRow base 5 1 v (l.length + m.length) (bytesV l ++ bytesV m)) : Buf w' base v (l ++ m) := by
  unfold Buf; rw [List.length_append, bytesV_append]; exact h
/-- Two buffers of the call's own, apart. -/
structure Two (w : World) (base : Nat) (v1 : Value) (l1 : List UInt8) (v2 : Value) (l2 : List UInt8) : Prop where
  one : Buf w base v1 l1
  two : Buf w base v2 l2
  ne : ∀ k, v1.ownBlock = some k → v2.ownBlock ≠ some k
section
variable {w w' : World} {base : Nat} {v1 v2 : Value} {l1 l2 : List UInt8}
theorem Two.pure (h : Two w base v1 l1 v2 l2) (k : Chg [] w w') : Two w' base v1 l1 v2 l2 := ⟨h.one.pure k, h.two.pure k, h.ne⟩
theorem Two.app (h : Two w base v1 l1 v2 l2) {v : Value} {l : List UInt8} (hv : w'.ownsRow base 5 1 v (l1.length + l.length) (bytesV l1 ++ bytesV l)) (hg : w.grownBy w' v1.ownBlock)
    (ha : v.ownBlock = v1.ownBlock ∨ v.ownBlock = some w.heap.size) : Two w' base v (l1 ++ l) v2 l2 := by
  have hne : v2.ownBlock = none ∨ v2.ownBlock ≠ v1.ownBlock := by
    cases h2 : v2.ownBlock with
    | none => exact .inl rfl
    | some k => exact .inr (fun e => h.ne k e.symm h2)
  refine ⟨Buf.app hv, World.ownsRow.kept h.two hg hne, fun k hk h2 => ?_⟩
  rcases ha with e | e
  · exact h.ne k (e ▸ hk) h2
  · rw [e] at hk
    have := (World.ownsRow.lt h.two k h2).2
    cases hk
    omega
end

/-- Since world w0 nothing has turned but new blocks; there stand the cursors cs, no two of them one. -/
structure Curs (w0 w : World) (cs : List (Nat × CS)) : Prop where
  env : Env w
  chg : Chg [] w0 w
  all : ∀ p ∈ cs, w0.heap.size ≤ p.1 ∧ CurB w p.1 p.2
  nodup : (cs.map (·.1)).Nodup
theorem Curs.start {w : World} (h : Env w) : Curs w w [] := ⟨h, Chg.refl _ _, fun _ hp => (by cases hp), by simp⟩
theorem Curs.pure {w0 w w' : World} {cs : List (Nat × CS)} (h : Curs w0 w cs) (k : Chg [] w w') : Curs w0 w' cs :=
  ⟨h.env.frame k (by simp), h.chg.then k, fun p hp => ⟨(h.all p hp).1, (h.all p hp).2.frame k⟩, h.nodup⟩
theorem Curs.dr {w0 w w' : World} {cs : List (Nat × CS)} (h : Curs w0 w cs) (k : Dr w w') : Curs w0 w' cs := h.pure ((Chg.refl [] _).dr k)
theorem Curs.alloc {w0 w : World} {cs : List (Nat × CS)} (h : Curs w0 w cs) (o : Obj) : Curs w0 (w.alloc o) cs := h.pure ((Chg.refl [] _).alloc o)
theorem Curs.new {w0 w w' : World} {cs : List (Nat × CS)} {b : Nat} {s : CS} (h : Curs w0 w cs) (k : Chg [] w w') (hb : CurB w' b s) (hn : w.heap.size ≤ b) : Curs w0 w' ((b, s) :: cs) := by
  have h' := h.pure k
  refine ⟨h'.env, h'.chg, fun p hp => ?_, ?_⟩
  · cases hp with
    | head => exact ⟨Nat.le_trans h.chg.size hn, hb⟩
    | tail _ hp => exact h'.all p hp
  · rw [List.map_cons, List.nodup_cons]
    refine ⟨fun hm => ?_, h.nodup⟩
    obtain ⟨p, hp, he⟩ := List.mem_map.1 hm
    have := (h.all p hp).2.lt
    have he' : p.1 = b := he
    omega
theorem Curs.cur {w0 w : World} {cs : List (Nat × CS)} {b : Nat} {s : CS} (h : Curs w0 w ((b, s) :: cs)) : CurB w b s := (h.all (b, s) (List.mem_cons_self ..)).2
theorem Curs.tail {w0 w : World} {cs : List (Nat × CS)} {p : Nat × CS} (h : Curs w0 w (p :: cs)) : Curs w0 w cs :=
  ⟨h.env, h.chg, fun q hq => h.all q (List.mem_cons_of_mem _ hq), (List.nodup_cons.1 h.nodup).2⟩
/-- A call of a method of the first one. -/
theorem Curs.call {w0 w w' : World} {cs : List (Nat × CS)} {b : Nat} {s s' : CS} (h : Curs w0 w ((b, s) :: cs)) (hb : CurB w' b s') (k : Chg [b] w w') : Curs w0 w' ((b, s') :: cs) := by
  have hnd := List.nodup_cons.1 h.nodup
  have h0 := (h.all (b, s) (List.mem_cons_self ..)).1
  refine ⟨h.env.frame k (by have := env_ne h.env h.cur; simp; omega), h.chg.new k h0, fun p hp => ?_, h.nodup⟩
  cases hp with
  | head => exact ⟨h0, hb⟩
  | tail _ hp =>
    have hp' := h.all p (List.mem_cons_of_mem _ hp)
    refine ⟨hp'.1, hp'.2.frame2 h.cur (fun e => hnd.1 ?_) k⟩
    exact List.mem_map.2 ⟨p, hp, e⟩
set_option maxRecDepth 100000
/-- A write to blocks behind the cursor's own. -/
theorem CurB.far {w w' : World} {b : Nat} {s : CS} (h : CurB w b s) {S : List Nat} (k : Chg S w w') (hS : ∀ i ∈ S, b < i) : CurB w' b s := by
  obtain ⟨a, n, cap, hb, h1, h2, h3, h4, h5, h6⟩ := h
  refine ⟨a, n, cap, k.heap hb (fun hm => by have := hS b hm; omega), h1, h2, h3, h4, h5, fun hn => ?_⟩
  obtain ⟨d, off, c, ha, hdb, hd, hc⟩ := h6 hn
  have hdS : d ∉ S := fun hm => by have := hS d hm; omega
  exact ⟨d, off, c, ha, hdb, k.heap hd hdS, fun j hj => k.cell (hc j hj) hdS⟩
theorem Chg.of_grown {a b : World} {row : Option Nat} (g : a.grownBy b row) : Chg row.toList a b :=
  ⟨g.os, g.tape, g.output, g.size, fun k hk hn => g.block k hk (fun e => hn (by rw [← e]; simp))⟩
theorem Curs.far {w0 w w' : World} {cs : List (Nat × CS)} (h : Curs w0 w cs) {S : List Nat} (k : Chg S w w') (hS : ∀ i ∈ S, w0.heap.size ≤ i ∧ 1 < i ∧ ∀ p ∈ cs, p.1 < i) : Curs w0 w' cs :=
  ⟨h.env.frame k (fun hm => by have := (hS _ hm).2.1; omega), h.chg.trans k (fun i hm hi => by have := (hS _ hm).1; omega), fun p hp => ⟨(h.all p hp).1, (h.all p hp).2.far k (fun i hi => (hS i hi).2.2 p hp)⟩, h.nodup⟩
end Go.Proofs.YtaipelkegemoeaaGreatDoor
