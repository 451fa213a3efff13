/- Lemmas, laid together: part 13 of 41. Conditions: none but each lemma's own. -/
import Derived.Test.YtkomocgodljecaaGreatDoorK12
import Derived.Test.YtkomocgodljecaaGreatDoorK4
/- bytes.Clone and cursor.New. -/
namespace Go.Proofs.YtkomocgodljecaaGreatDoor
open Go.RowKit

theorem Clone_some (ad : Addr) (n cap : Nat) (xs : List Value) (w : World) (hl : n = xs.length) (hn : n ≤ 140737488355328) (h1 : ∀ u ∈ xs, u.oneCell' = true)
    (hc : ∀ j u, xs[j]? = some u → w.cell? (ad.add j) = some u) :
    Calls Tryz.prog 47 #[.slice (some ad) n cap] w fun e w' => ∃ v, e = .returned v ∧ w'.ownsRow w.heap.size 5 1 v n xs ∧ Chg [] w w' := by
  have hsn := @Lib.run_eql_slice_nil Tryz.prog
  obtain ⟨i0, hi, hz0, hz1, hz2⟩ := info_parts Tryz.infoU8
  have hcx : ∀ j u, xs[j]? = some u → (w.alloc (.cells #[] 5)).cell? (ad.add j) = some u := by
    intro j u hu
    have := hc j u hu
    rw [World.cell?_alloc_lt _ _ _ (World.block_lt_of_cell? _ _ this)]
    exact this
  have HC := Lib.hid hcx
  have HL := Lib.hid hl
  have H1 := Lib.hid h1
  clear hcx hl hc h1
  go_enter Tryz.func47, Tryz.ntmps47
  go_wp2_with (at_builtin; refine wpList_append_own _ rfl _ _ 34 rfl w.heap.size 5 i0 (.int .u8 0) 1 1 Tryz.underlying34 hi hz0 hz1 hz2 rfl (by decide) _ 0 [] rfl (World.ownsRow_made w #[] 0 (Nat.le_refl _) (by unfold maxLen; omega) rfl) ad n cap xs rfl ?c1 ?c2 ?c3 ?c4 ?c5 ?c6 ?_)
  case c1 => rw [HL.out, Nat.mul_one]
  case c2 => exact HC.out
  case c3 => exact H1.out
  case c4 => unfold maxLen; omega
  case c5 => omega
  case c6 => simp
  intro v' w1 hown hgrow _
  have HO := Lib.hid hown
  have HG := Lib.hid hgrow
  clear hown hgrow
  go_wp2
  go_ret
  refine ⟨_, rfl, ?_, ?_⟩
  · have := HO.out
    simpa using this
  · exact ((Chg.refl [] w).alloc _).grown HG.out (by intro k hk; simp [Value.ownBlock] at hk; exact .inr (by omega))

/-- cursor.New: a cursor of a copy, at its beginning. -/
theorem New_cur (v : Value) (l : List UInt8) (big : Bool) (w : World) (hv : Rd w v (bytesV l)) (hl : l.length ≤ 140737488355328) :
    Calls Tryz.prog 29 #[v, .bool big] w fun e w' => ∃ b, e = .returned (.pointer (some ⟨b, 0, none⟩)) ∧ w.heap.size ≤ b ∧ CurB w' b ⟨l, 0, big, false⟩ ∧ Chg [] w w' := by
  obtain ⟨a, n, cap, rfl, hn, hnc, hcm, hx⟩ := hv
  rw [bytesV_length] at hn
  subst hn
  cases a with
  | none =>
    have hnil : l = [] := by
      cases l with
      | nil => rfl
      | cons x r => obtain ⟨b, off, h, _⟩ := hx (by simp [bytesV]); cases h
    subst hnil
    clear hx hnc hcm hl
    go_enter Tryz.func29, Tryz.ntmps29
    go_wp2_with fail
    refine (Clone_nil _ _ w).mono ?_
    rintro e w1 ⟨rfl, rfl⟩
    go_wp2
    go_ret
    refine ⟨_, rfl, Nat.le_refl _, ⟨none, 0, 0, heap_alloc_eq w _, rfl, Nat.le_refl _, Nat.zero_le _, by omega, Nat.le_refl _, fun h => absurd h (by omega)⟩, (Chg.refl _ _).alloc _⟩
  | some ad =>
    have hc : ∀ j u, (bytesV l)[j]? = some u → w.cell? (ad.add j) = some u := by
      intro j u hu
      obtain ⟨hj, _⟩ := List.getElem?_eq_some_iff.1 hu
      obtain ⟨b, off, h, hcell⟩ := hx (by intro e; rw [e] at hj; simp at hj)
      cases h
      rw [Addr_add, hcell j hj, hu]
    have H1 : Hid (∀ u ∈ bytesV l, u.oneCell' = true) := by
      intro u hu
      obtain ⟨x, _, rfl⟩ := List.mem_map.1 hu
      rfl
    have HC := Lib.hid hc
    have HL := Lib.hid hl
    clear hx hc hnc hcm hl
    go_enter Tryz.func29, Tryz.ntmps29
    go_wp2_with fail
    refine (Clone_some ad _ cap (bytesV l) w (bytesV_length l).symm HL.out H1.out HC.out).mono ?_
    rintro e w1 ⟨v, rfl, hown, hchg⟩
    have HO := Lib.hid hown
    have HG := Lib.hid hchg
    have hsz := hchg.size
    obtain ⟨a', n', cap', rfl⟩ : ∃ a n c, v = Value.slice a n c := by
      rcases hown.2 with ⟨rfl, _⟩ | ⟨g, cap', cur, rfl, _⟩
      · exact ⟨_, _, _, rfl⟩
      · exact ⟨_, _, _, rfl⟩
    clear hown hchg
    go_wp2
    go_ret
    refine ⟨_, rfl, hsz, ?_, HG.out.alloc _⟩
    obtain ⟨hxl, hv⟩ := HO.out
    rw [Nat.mul_one] at hxl
    rcases hv with ⟨hv, h0⟩ | ⟨g, cap', cur, hv, hbg, hg, hnc, hcm, hcs, htake⟩
    · cases hv
      refine ⟨none, 0, 0, heap_alloc_eq w1 _, h0.symm, Nat.le_refl _, Nat.zero_le _, by omega, Nat.le_refl _, fun h => absurd h (by omega)⟩
    · cases hv
      have hgl := lt_of_heap hg
      refine ⟨_, _, _, heap_alloc_eq w1 _, rfl, hnc, hcm, HL.out, Nat.zero_le _, fun _ => ⟨g, 0, cur, rfl, by omega, by rw [heap_alloc_lt hgl]; exact hg, fun j hj => ?_⟩⟩
      rw [World.cell?_alloc_lt _ _ _ hgl, Nat.zero_add, cell_of_heap hg]
      have e1 : (cur.toList.take (l.length * 1))[j]? = (bytesV l)[j]? := by rw [htake]
      rw [List.getElem?_take, if_pos (by omega), bytesV_get l j hj] at e1
      simpa using e1
end Go.Proofs.YtkomocgodljecaaGreatDoor
/- take and Number on the cursor's abstract state. -/
namespace Go.Proofs.YtkomocgodljecaaGreatDoor
open Go.RowKit

theorem failS_of {s : CS} (h : s.failed = true) : failS s = s := by cases s; simp_all [failS]
theorem canTake_of {s : CS} {n : Int} (hf : s.failed = false) (h0 : 0 ≤ n) (h1 : n ≤ s.l.length - s.at_) : canTake s n = true := by simp [canTake, hf, h0, h1]
theorem takeS_no {s : CS} {n : Int} (h : canTake s n = false) : takeS s n = failS s := by simp [takeS, h]
theorem takeL_no {s : CS} {n : Int} (h : canTake s n = false) : takeL s n = [] := by simp [takeL, h]
theorem canTake_spec {s : CS} {n : Int} (h : canTake s n = true) : s.failed = false ∧ 0 ≤ n ∧ n ≤ s.l.length - s.at_ := by simpa [canTake] using h
theorem takeL_length {s : CS} {n : Int} (hc : s.at_ ≤ s.l.length) (h : canTake s n = true) : (takeL s n).length = n.toNat := by
  obtain ⟨_, h0, h1⟩ := canTake_spec h
  simp [takeL, h]; omega
theorem takeL_get {s : CS} {n : Int} (h : canTake s n = true) (j : Nat) (hj : j < n.toNat) : (takeL s n).getD j 0 = s.l.getD (s.at_ + j) 0 := by
  simp [takeL, h, hj]

/-- Where not so many stand there, or it has failed: none. -/
theorem take_no (b : Nat) (s : CS) (m : Int) (w : World) (h : CurB w b s) (hno : canTake s m = false) :
    Calls Tryz.prog 62 #[.pointer (some ⟨b, 0, none⟩), .int .i64 m] w fun e w' => e = .returned (.slice none 0 0) ∧ CurB w' b (failS s) ∧ Chg [b] w w' := by
  have hle := h.at_le
  by_cases h0 : 0 ≤ m
  · by_cases h1 : m ≤ s.l.length - s.at_
    · have hf : s.failed = true := by
        cases hf : s.failed with
        | true => rfl
        | false => rw [canTake_of hf h0 h1] at hno; exact absurd hno (by decide)
      have HF := Lib.hid hf
      have H := Lib.hid h
      clear hf hno h
      go_enter Tryz.func62, Tryz.ntmps62
      go_wp2_with fail
      refine (Left_cur b s w H.out).mono ?_
      rintro e w1 ⟨rfl, hd⟩
      have H1 := Lib.hid (H.out.frame ((Chg.refl [] w).dr hd))
      have HD := Lib.hid hd
      clear hd
      go_wp2_with fail
      refine (well_cur b s true w1 H1.out).mono ?_
      rintro e w' ⟨rfl, hcur, hchg⟩
      rw [HF.out]
      have HR := Lib.hid hcur
      have HG := Lib.hid hchg
      clear hcur hchg
      go_wp2
      go_ret
      exact ⟨rfl, by rw [failS_of HF.out]; exact HR.out, ((Chg.refl [b] w).dr HD.out).same HG.out⟩
    · have hdec : decide (m ≤ (s.l.length : Int) - s.at_) = false := by simpa using h1
      have H := Lib.hid h
      clear hno h h1
      go_enter Tryz.func62, Tryz.ntmps62
      go_wp2_with fail
      refine (Left_cur b s w H.out).mono ?_
      rintro e w1 ⟨rfl, hd⟩
      have H1 := Lib.hid (H.out.frame ((Chg.refl [] w).dr hd))
      have HD := Lib.hid hd
      clear hd
      go_wp2_with fail
      refine (well_cur b s false w1 H1.out).mono ?_
      rintro e w' ⟨rfl, hcur, hchg⟩
      have HR := Lib.hid hcur
      have HG := Lib.hid hchg
      clear hcur hchg
      simp only [Bool.false_and]
      go_wp2
      go_ret
      exact ⟨rfl, by simpa using HR.out, ((Chg.refl [b] w).dr HD.out).same HG.out⟩
  · have H := Lib.hid h
    clear hno h
    go_enter Tryz.func62, Tryz.ntmps62
    go_wp2_with fail
    refine (well_cur b s false w H.out).mono ?_
    rintro e w' ⟨rfl, hcur, hchg⟩
    have HR := Lib.hid hcur
    have HG := Lib.hid hchg
    clear hcur hchg
    simp only [Bool.false_and]
    go_wp2
    go_ret
    exact ⟨rfl, by simpa using HR.out, HG.out⟩

/-- take, whatever the state: a slice of what is taken, in the cursor's own bytes. -/
theorem take_cur (b : Nat) (s : CS) (m : Int) (w : World) (h : CurB w b s) :
    Calls Tryz.prog 62 #[.pointer (some ⟨b, 0, none⟩), .int .i64 m] w fun e w' => ∃ v, e = .returned v ∧ CurB w' b (takeS s m) ∧ Rd w' v (bytesV (takeL s m)) ∧ Chg [b] w w' := by
  cases hcan : canTake s m with
  | false =>
    refine (take_no b s m w h hcan).mono fun e w' ⟨he, hc, hg⟩ => ⟨_, he, by rw [takeS_no hcan]; exact hc, by rw [takeL_no hcan]; exact Rd.nil w', hg⟩
  | true =>
    have h' := h
    obtain ⟨hf, h0, h1⟩ := canTake_spec hcan
    obtain ⟨a, n, cap, hb, rfl, h2, h3, h4, h5, h6⟩ := h
    rw [hf] at hb
    refine (take_some b a _ cap _ m _ w hb (by omega) h4 (by omega) h0 h1 h2 h3 (fun hm => by obtain ⟨d, off, _, ha, _⟩ := h6 (by omega); exact ⟨d, off, ha⟩)).mono fun e w' ⟨he, hd⟩ => ?_
    have hst := h'.store (s' := takeS s m) 1 _ hd (by unfold takeS; rw [if_pos hcan]) (by unfold takeS; rw [if_pos hcan]; show s.at_ + m.toNat ≤ _; omega) (fun x => by
      unfold takeS; rw [if_pos hcan]; simp [hf]; omega)
    refine ⟨_, he, hst.1, ?_, hst.2⟩
    have hlen := takeL_length h'.at_le hcan
    have hsum : s.at_ + m.toNat ≤ s.l.length := by omega
    refine ⟨_, _, _, rfl, by simp [hlen, bytesV_length], Nat.le_refl _, Nat.le_trans (by omega : m.toNat ≤ s.l.length) (Nat.le_trans h2 h3), fun hne => ?_⟩
    have hm0 : m ≠ 0 := by
      rintro rfl
      apply hne
      apply List.eq_nil_of_length_eq_zero
      rw [bytesV_length, hlen]; rfl
    obtain ⟨d, off, c, rfl, hdb, hd', hc'⟩ := h6 (by omega)
    refine ⟨d, off + s.at_, by rw [if_neg hm0]; simp, fun j hj => ?_⟩
    rw [bytesV_length, hlen] at hj
    have e1 := (hc' (s.at_ + j) (Nat.lt_of_lt_of_le (Nat.add_lt_add_left hj _) hsum))
    have e2 := hst.2.cell e1 (by simp; omega)
    rw [Nat.add_assoc, e2, bytesV_get _ _ (by rw [hlen]; exact hj), takeL_get hcan j hj]

theorem Number_cur (b : Nat) (s : CS) (m : Int) (w : World) (h : CurB w b s) :
    Calls Tryz.prog 32 #[.pointer (some ⟨b, 0, none⟩), .int .i64 m] w fun e w' => e = .returned (.int .u64 (numberV s m)) ∧ CurB w' b (numberS s m) ∧ Chg [b] w w' := by
  cases hok : okSize m with
  | false =>
    have h1 : ¬ m = 1 ∧ ¬ m = 2 ∧ ¬ m = 4 ∧ ¬ m = 8 := by simpa [okSize] using hok
    obtain ⟨h1, h2, h3, h4⟩ := h1
    have e1 : (m == 1) = false := by simpa using h1
    have e2 : (m == 2) = false := by simpa using h2
    have e4 : (m == 4) = false := by simpa using h3
    have e8 : (m == 8) = false := by simpa using h4
    have H := Lib.hid h
    have HO := Lib.hid hok
    clear h h1 h2 h3 h4 hok
    go_enter Tryz.func32, Tryz.ntmps32
    go_wp2_with fail
    refine (well_cur b s false w H.out).mono ?_
    rintro e w' ⟨rfl, hcur, hchg⟩
    have HR := Lib.hid hcur
    have HG := Lib.hid hchg
    clear hcur hchg
    simp only [Bool.false_and]
    go_wp2
    go_ret
    exact ⟨by unfold numberV; rw [HO.out]; rfl, by unfold numberS; rw [HO.out]; simpa using HR.out, HG.out⟩
  | true =>
    have hm : m = 1 ∨ m = 2 ∨ m = 4 ∨ m = 8 := by simpa [okSize] using hok
    cases hcan : canTake s m with
    | false =>
      have ev : numberV s m = 0 := by unfold numberV; rw [takeL_no hcan]; unfold numOf; split <;> (try split) <;> rfl
      have es : numberS s m = failS s := by unfold numberS; rw [hok, if_pos rfl, takeS_no hcan]
      rw [ev, es]
      clear ev es hok
      have H := Lib.hid h
      have HC := Lib.hid hcan
      clear h hcan
      rcases hm with rfl | rfl | rfl | rfl
      all_goals
        go_enter Tryz.func32, Tryz.ntmps32
        go_wp2_with fail
        refine (well_cur b s true w H.out).mono ?_
        rintro e w1 ⟨rfl, hcur, hchg⟩
        have HR := Lib.hid hcur
        have HG := Lib.hid hchg
        clear hcur hchg
        cases hf : s.failed with
        | true =>
          have HF := Lib.hid hf
          clear hf
          go_wp2
          go_ret
          exact ⟨rfl, by rw [failS_of HF.out]; exact HR.out, HG.out⟩
        | false =>
          have HF := Lib.hid hf
          clear hf
          go_wp2_with fail
          refine (take_no b s _ w1 HR.out HC.out).mono ?_
          rintro e w2 ⟨rfl, hcur, hchg⟩
          have HR2 := Lib.hid hcur
          have HG2 := Lib.hid hchg
          clear hcur hchg
          go_wp2
          refine wp_loop_rounds 1 ?_
          rw [rounds_succ]
          go_wp2
          go_ret
          exact ⟨rfl, HR2.out, HG.out.same HG2.out⟩
    | true =>
      have h' := h
      obtain ⟨hf, h0, h1⟩ := canTake_spec hcan
      obtain ⟨a, n, cap, hb, rfl, h2, h3, h4, h5, h6⟩ := h
      rw [hf] at hb
      obtain ⟨d, off, c, rfl, hdb, hd', hc'⟩ := h6 (by omega)
      obtain ⟨M, rfl⟩ : ∃ M : Nat, m = M := ⟨m.toNat, by omega⟩
      have hlen := takeL_length h'.at_le hcan
      refine (number_some b d off _ cap s.at_ M s.big (takeL s M) w hb h4 h2 h3 (by omega) (by omega) (by omega) (by simpa using hlen) (fun j hj => ?_)).mono fun e w' ⟨he, hd⟩ => ?_
      · rw [takeL_get hcan j (by simpa using hj), Nat.add_assoc]
        exact hc' (s.at_ + j) (by omega)
      · have e1 : numberS s M = takeS s M := by unfold numberS; rw [hok, if_pos rfl]
        have e2 : numberV s M = numOf s.big (takeL s M) := by unfold numberV; rw [hok, if_pos rfl]
        rw [e1, e2]
        exact ⟨he, h'.store (s' := takeS s M) 1 _ hd (by unfold takeS; rw [if_pos hcan]) (by unfold takeS; rw [if_pos hcan]; show s.at_ + (M : Int).toNat ≤ _; omega) (fun x => by
          unfold takeS; rw [if_pos hcan]; simp [hf])⟩
end Go.Proofs.YtkomocgodljecaaGreatDoor
/- leb.groups, over any closure that keeps one number. -/
namespace Go.Proofs.YtkomocgodljecaaGreatDoor
open Go.RowKit

theorem CurB.frame3 {w w' : World} {b nb : Nat} {s : CS} {c : Array Value} {T : TypeId} {fz : Nat × Nat} (h : CurB w b s) (hn : w.heap[nb]? = some (.cells c T fz)) (hT : T ≠ 5) (hne : b ≠ nb) (k : Chg [nb] w w') : CurB w' b s := by
  obtain ⟨a, n, cap, hb, h1, h2', h3, h4, h5, h6⟩ := h
  refine ⟨a, n, cap, k.heap hb (by simpa using hne), h1, h2', h3, h4, h5, fun hn' => ?_⟩
  obtain ⟨d, off, c', ha, hdb, hd, hc⟩ := h6 hn'
  have hd2 : d ∉ [nb] := by
    intro hm
    rw [List.mem_singleton] at hm
    subst hm
    rw [hd] at hn
    simp only [Option.some.injEq, Obj.cells.injEq] at hn
    exact hT hn.2.1.symm
  exact ⟨d, off, c', ha, hdb, k.heap hd hd2, fun j hj => k.cell (hc j hj) hd2⟩

/-- What groups comes to: over the bytes ahead, from group i on. -/
def grp (okf : Nat → Nat → Bool) (stepf : Nat → Nat → Int → Int) : List UInt8 → Nat → Int → Option (Int × Nat)
  | [], _, _ => none
  | b :: r, i, acc =>
    if 10 ≤ i then none
    else if okf i (b.toNat % 128) = false then none
    else if b.toNat < 128 then some (stepf i (b.toNat % 128) acc, i + 1)
    else grp okf stepf r (i + 1) (stepf i (b.toNat % 128) acc)

theorem drop_cons (l : List UInt8) (k : Nat) (h : k < l.length) : l.drop k = l.getD k 0 :: l.drop (k + 1) := by
  rw [List.drop_eq_getElem_cons h]; simp [h]
theorem canTake_one {s : CS} (hf : s.failed = false) (h : s.at_ < s.l.length) : canTake s 1 = true := canTake_of hf (by omega) (by omega)
theorem numberS_one {s : CS} (hf : s.failed = false) (h : s.at_ < s.l.length) : numberS s 1 = { s with at_ := s.at_ + 1 } := by
  unfold numberS takeS; rw [canTake_one hf h]; rfl
theorem numberV_one {s : CS} (hf : s.failed = false) (h : s.at_ < s.l.length) : numberV s 1 = (s.l.getD s.at_ 0).toNat := by
  unfold numberV takeL; rw [canTake_one hf h, drop_cons s.l s.at_ h]
  unfold numOf; cases s.big <;> simp [okSize, beNum, leNum]
theorem and127 (x : Nat) (h : x < 256) : bits .and .u8 (x : Int) 127 = ((x % 128 : Nat) : Int) := by
  have := u8_and_nat x 127 h (by decide)
  rw [show ((127 : Nat) : Int) = 127 from rfl] at this
  rw [this, show (127 : Nat) = 2 ^ 7 - 1 from rfl, Nat.and_two_pow_sub_one_eq_mod]
theorem and128 (x : Nat) (h : x < 256) : bits .and .u8 (x : Int) 128 = if x < 128 then 0 else 128 := by
  have := u8_and_nat x 128 h (by decide)
  rw [show ((128 : Nat) : Int) = 128 from rfl] at this
  rw [this, show (128 : Nat) = 2 ^ 7 from rfl, nat_bit]
  split <;> omega

theorem seekS_back {s : CS} (m : Nat) (hf : s.failed = false) (h : s.at_ ≤ s.l.length) : seekS { s with at_ := m } s.at_ = s := by
  unfold seekS; rw [if_pos ⟨by omega, by show (s.at_ : Int) ≤ s.l.length; omega⟩, if_neg (by show ¬ s.failed = true; rw [hf]; decide)]; simp
theorem grp_none_nil (okf : Nat → Nat → Bool) (stepf : Nat → Nat → Int → Int) (l : List UInt8) (k : Nat) (a : Int) (h : l.length ≤ k) (i : Nat) : grp okf stepf (l.drop k) i a = none := by
  rw [List.drop_eq_nil_of_le h]; rfl
theorem grp_none_ten (okf : Nat → Nat → Bool) (stepf : Nat → Nat → Int → Int) (l : List UInt8) (i : Nat) (a : Int) (h : 10 ≤ i) : grp okf stepf l i a = none := by
  cases l with
  | nil => rfl
  | cons b r => rw [grp, if_pos h]
theorem env_ne {w : World} {b : Nat} {s : CS} (hg : Env w) (h : CurB w b s) : b ≠ 1 := by
  rintro rfl
  obtain ⟨_, _, _, hb, _⟩ := h
  have h0 := cell_of_heap hb 0
  unfold Env at hg
  rw [hg] at h0
  simp at h0
theorem env_ne_int {w : World} {b : Nat} {K : IntKind} {a : Int} {T : TypeId} {fz : Nat × Nat} (hg : Env w) (h : w.heap[b]? = some (.cells #[.int K a] T fz)) : b ≠ 1 := by
  rintro rfl
  have h0 := cell_of_heap h 0
  unfold Env at hg
  rw [hg] at h0
  simp at h0
section
variable (F : FuncId) (K : IntKind) (T : TypeId) (okf : Nat → Nat → Bool) (stepf : Nat → Nat → Int → Int)
/-- The closure at F keeps its number in a block of one cell. -/
def Keeps : Prop := ∀ (W : World) (nb i x : Nat) (acc : Int), i < 10 → x < 128 → W.heap[nb]? = some (.cells #[.int K acc] T (0, 0)) →
  Calls Tryz.prog F #[.int .i64 i, .int .u8 x, .pointer (some ⟨nb, 0, none⟩)] W fun e w' => e = .returned (.bool (okf i x)) ∧ Dr (W.setCell ⟨nb, 0, none⟩ (.int K (stepf i x acc))) w'

set_option maxRecDepth 100000 in
theorem groups_ok (hcf : ∀ (args : Array Value) (W : World), (callFunc F args).run Tryz.prog W = .ok (.enter F args) W) (hK : Keeps F K T okf stepf) (hT : T ≠ 5 ∧ T ≠ 94) (b nb : Nat) (s : CS) (acc : Int) (w : World) (hg : Env w) (h : CurB w b s) (hf : s.failed = false)
    (hn : w.heap[nb]? = some (.cells #[.int K acc] T (0, 0))) :
    Calls Tryz.prog 97 #[.pointer (some ⟨b, 0, none⟩), .func (.func F) #[] #[.pointer (some ⟨nb, 0, none⟩)]] w fun e w' =>
      e = .returned (.bool (grp okf stepf (s.l.drop s.at_) 0 acc).isSome) ∧
      CurB w' b (match grp okf stepf (s.l.drop s.at_) 0 acc with | some (_, n) => { s with at_ := s.at_ + n } | none => failS s) ∧
      (∀ v n, grp okf stepf (s.l.drop s.at_) 0 acc = some (v, n) → w'.heap[nb]? = some (.cells #[.int K v] T (0, 0))) ∧ Chg [b, nb] w w' := by
  have hbn : b ≠ nb := by
    rintro rfl
    obtain ⟨_, _, _, hb, _⟩ := h
    rw [hn] at hb
    simp only [Option.some.injEq, Obj.cells.injEq] at hb
    exact hT.2 hb.2.1
  have HB0 : Hid (b ≠ 1) := env_ne hg h
  have HN0 : Hid (nb ≠ 1) := env_ne_int hg hn
  have H := Lib.hid h
  have HN := Lib.hid hn
  have HF := Lib.hid hf
  have HG := Lib.hid hg
  have HK : Hid (Keeps F K T okf stepf) := hK
  clear h hn hf hg hK
  go_enter Tryz.func97, Tryz.ntmps97
  go_wp2
  go_step3
  go_wp2_with fail
  refine (At_cur b s w H.out).mono ?_
  rintro e w' ⟨rfl, rfl⟩
  go_wp2
  go_step3
  go_wp2
  go_loopw [6, 7, 10] (fun _ _ k10 wr => ∃ (k : Nat) (a : Int), k ≤ 10 ∧ k10 = .int .i64 k ∧ s.at_ + k ≤ s.l.length ∧ CurB wr b { s with at_ := s.at_ + k } ∧ wr.heap[nb]? = some (.cells #[.int K a] T (0, 0)) ∧
      grp okf stepf (s.l.drop (s.at_ + k)) k a = grp okf stepf (s.l.drop s.at_) 0 acc ∧ Env wr ∧ Chg [b, nb] w wr) (fun _ _ k10 _ => 10 - (intOf k10).toNat)
  case atStart => exact ⟨0, acc, by omega, rfl, H.out.at_le, H.out, HN.out, rfl, HG.out, Chg.refl _ _⟩
  case round =>
    obtain ⟨k, a, hk, rfl, hle, hcur, hnr, hgr, henv, hchg⟩ := hrel
    have HC := Lib.hid hcur
    have HNR := Lib.hid hnr
    have HGR := Lib.hid hgr
    have HE := Lib.hid henv
    have HCH := Lib.hid hchg
    have HLE := Lib.hid hle
    clear hcur hnr hgr henv hchg hle
    obtain ⟨g, rfl⟩ : ∃ g, g = wr := ⟨_, rfl⟩
    by_cases hlt : k < 10
    · go_wp2_with fail
      refine (Left_cur b _ _ HC.out).mono ?_
      rintro e w1 ⟨rfl, hd⟩
      have H1 := Lib.hid (HC.out.frame ((Chg.refl [] _).dr hd))
      have HN1 := Lib.hid (((Chg.refl [] _).dr hd).heap HNR.out (by simp))
      have HE1 := Lib.hid (HE.out.frame ((Chg.refl [] _).dr hd) (by simp))
      have HC1 := Lib.hid (HCH.out.dr hd)
      clear hd
      by_cases hz : s.at_ + k = s.l.length
      · have hz2 : ((s.l.length : Int) - ((s.at_ + k : Nat) : Int) == 0) = true := by simp; omega
        have HZ := Lib.hid hz
        clear hz
        go_wp2_with fail
        refine (Seek_cur b _ _ w1 H1.out).mono ?_
        rintro e w5 ⟨rfl, hcur, hch⟩
        rw [seekS_back _ HF.out H.out.at_le] at hcur
        have H5 := Lib.hid hcur
        have HC5 := Lib.hid hch
        clear hcur hch
        go_wp2_with fail
        refine (Fail_cur b _ w5 H5.out).mono ?_
        rintro e w6 ⟨rfl, hcur, hch⟩
        have H6 := Lib.hid hcur
        have HC6 := Lib.hid hch
        clear hcur hch
        go_wp2
        rw [Exit.noGoto_ret]
        go_ret
        have hnone : grp okf stepf (s.l.drop s.at_) 0 acc = none := by
          rw [← HGR.out]
          exact grp_none_nil okf stepf s.l _ a (by rw [HZ.out]; exact Nat.le_refl _) k
        rw [hnone]
        exact ⟨rfl, H6.out, fun v n h => (by cases h), ((HC1.out.trans HC5.out (by simp)).trans HC6.out (by simp))⟩
      · have hz2 : ((s.l.length : Int) - ((s.at_ + k : Nat) : Int) == 0) = false := by simp; omega
        have hpos : s.at_ + k < s.l.length := by have := HLE.out; omega
        have HZ := Lib.hid hpos
        clear hz hpos
        go_wp2_with fail
        refine (Number_cur b _ 1 w1 H1.out).mono ?_
        rintro e w2 ⟨rfl, hcur, hch⟩
        rw [numberS_one (s := { s with at_ := s.at_ + k }) HF.out HZ.out] at hcur
        rw [numberV_one (s := { s with at_ := s.at_ + k }) HF.out HZ.out]
        obtain ⟨x, hx⟩ : ∃ x : Nat, x = (s.l.getD (s.at_ + k) 0).toNat := ⟨_, rfl⟩
        have hx2 : x < 256 := by rw [hx]; exact (s.l.getD (s.at_ + k) 0).toNat_lt
        rw [← hx]
        have HX := Lib.hid hx
        have H2 := Lib.hid hcur
        have HN2 := Lib.hid (hch.heap HN1.out (by simpa using fun h => hbn h.symm))
        have HE2 := Lib.hid (HE1.out.frame hch (by have := HB0.out; simp; omega))
        have HC2 := Lib.hid (HC1.out.trans hch (by simp))
        clear hx hcur hch
        go_wp2_with fail
        refine (Err_ok b _ w2 H2.out HF.out).mono ?_
        rintro e w3 ⟨rfl, hch⟩
        have H3 := Lib.hid (H2.out.frame hch)
        have HN3 := Lib.hid (hch.heap HN2.out (by simp))
        have HE3 := Lib.hid (HE2.out.frame hch (by simp))
        have HC3 := Lib.hid (HC2.out.then hch)
        clear hch
        go_wp2_with fail
        rw [and127 x hx2]
        refine (HK.out w3 nb k (x % 128) a hlt (by omega) HN3.out).mono ?_
        rintro e w4 ⟨rfl, hd⟩
        have hch : Chg [nb] w3 w4 := ((Chg.refl [nb] w3).setCell _ _ (.inl (by simp))).dr hd
        have H4 := Lib.hid (H3.out.frame3 HN3.out hT.1 hbn hch)
        have HN4 : Hid (w4.heap[nb]? = some (.cells #[.int K (stepf k (x % 128) a)] T (0, 0))) := by
          show _
          rw [hd.heap, heap_setCell HN3.out]; rfl
        have HE4 := Lib.hid (HE3.out.frame hch (by have := HN0.out; simp; omega))
        have HC4 := Lib.hid (HC3.out.trans hch (by simp))
        have HGS : Hid (grp okf stepf (s.l.drop (s.at_ + k)) k a = if okf k (x % 128) = false then none else if x < 128 then some (stepf k (x % 128) a, k + 1) else grp okf stepf (s.l.drop (s.at_ + k + 1)) (k + 1) (stepf k (x % 128) a)) := by
          apply Lib.hid
          rw [drop_cons s.l _ HZ.out, grp, if_neg (by omega), ← HX.out]
        clear hd hch
        cases hokf : okf k (x % 128) with
        | false =>
          have HOK := Lib.hid hokf
          clear hokf
          go_wp2_with fail
          refine (Seek_cur b _ _ w4 H4.out).mono ?_
          rintro e w5 ⟨rfl, hcur, hch⟩
          rw [seekS_back _ HF.out H.out.at_le] at hcur
          have H5 := Lib.hid hcur
          have HC5 := Lib.hid hch
          clear hcur hch
          go_wp2_with fail
          refine (Fail_cur b _ w5 H5.out).mono ?_
          rintro e w6 ⟨rfl, hcur, hch⟩
          have H6 := Lib.hid hcur
          have HC6 := Lib.hid hch
          clear hcur hch
          go_wp2
          rw [Exit.noGoto_ret]
          go_ret
          have hnone : grp okf stepf (s.l.drop s.at_) 0 acc = none := by
            rw [← HGR.out]
            exact by rw [HGS.out, if_pos HOK.out]
          rw [hnone]
          exact ⟨rfl, H6.out, fun v n h => (by cases h), ((HC4.out.trans HC5.out (by simp)).trans HC6.out (by simp))⟩
        | true =>
          have HOK := Lib.hid hokf
          clear hokf
          have h128 := and128 x hx2
          by_cases hx128 : x < 128
          · rw [if_pos hx128] at h128
            have HX128 := Lib.hid hx128
            clear hx128
            go_wp2
            rw [Exit.noGoto_ret]
            go_ret
            have hsome : grp okf stepf (s.l.drop s.at_) 0 acc = some (stepf k (x % 128) a, k + 1) := by
              rw [← HGR.out, HGS.out, if_neg (by rw [HOK.out]; decide), if_pos HX128.out]
            rw [hsome]
            exact ⟨rfl, H4.out, fun v n h => (by cases h; exact HN4.out), HC4.out⟩
          · rw [if_neg hx128] at h128
            have HX128 := Lib.hid hx128
            clear hx128
            go_wp2
            go_roundw
            case rel => exact ⟨k + 1, _, by omega, by go_num, HZ.out, H4.out, HN4.out, (by rw [← HGR.out, HGS.out, if_neg (by rw [HOK.out]; decide), if_neg HX128.out]; rfl), HE4.out, HC4.out⟩
            case measure => simp [intOf]; omega
    · go_wp2_with fail
      refine (Seek_cur b _ _ g HC.out).mono ?_
      rintro e w5 ⟨rfl, hcur, hch⟩
      rw [seekS_back _ HF.out H.out.at_le] at hcur
      have H5 := Lib.hid hcur
      have HC5 := Lib.hid hch
      clear hcur hch
      go_wp2_with fail
      refine (Fail_cur b _ w5 H5.out).mono ?_
      rintro e w6 ⟨rfl, hcur, hch⟩
      have H6 := Lib.hid hcur
      have HC6 := Lib.hid hch
      clear hcur hch
      go_wp2
      rw [Exit.noGoto_ret]
      go_ret
      have hnone : grp okf stepf (s.l.drop s.at_) 0 acc = none := by
        rw [← HGR.out]
        exact grp_none_ten okf stepf _ _ _ (by omega)
      rw [hnone]
      exact ⟨rfl, H6.out, fun v n h => (by cases h), ((HCH.out.trans HC5.out (by simp)).trans HC6.out (by simp))⟩
end
end Go.Proofs.YtkomocgodljecaaGreatDoor
