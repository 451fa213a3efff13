/- Lemmas, laid together: part 10 of 41. Conditions: none but each lemma's own. -/
import Derived.Test.YtkomocgodljecaaGreatDoorK9
/- clevisref12.Set. -/
namespace Go.Proofs.YtkomocgodljecaaGreatDoor
open Go.RowKit
set_option maxRecDepth 100000

theorem ss_lt {S : List Fx} (h : SS S) {i j : Nat} (hij : i < j) (hj : j < S.length) : ordF (S.getD i .zero) (S.getD j .zero) < 0 := by
  have := List.pairwise_iff_getElem.1 h i j (by omega) hj hij
  simpa [List.getD_eq_getElem?_getD, hj, show i < S.length by omega] using this
theorem ss_low {S : List Fx} (h : SS S) {x : Fx} {m : Nat} (hm : m < S.length) (hx : ordF (S.getD m .zero) x < 0) : ∀ j, j < m + 1 → ordF (S.getD j .zero) x < 0 := by
  intro j hj
  by_cases e : j = m
  · subst e; exact hx
  · exact ord_lt_trans (ss_lt h (by omega) hm) hx
theorem ss_high {S : List Fx} (h : SS S) {x : Fx} {m : Nat} (hx : ¬ ordF (S.getD m .zero) x < 0) : ∀ j, m ≤ j → j < S.length → ¬ ordF (S.getD j .zero) x < 0 := by
  intro j h1 h2 hj
  by_cases e : j = m
  · subst e; exact hx hj
  · exact hx (ord_lt_trans (ss_lt h (by omega) h2) hj)
theorem take_sn (S : List Fx) (z : Fx) (k : Nat) (h : k ≤ S.length) : (S ++ [z]).take k = S.take k := List.take_append_of_le_length h
theorem cur_set (S : List Fx) (z x : Fx) (lo : Nat) (h : lo ≤ S.length) : ((S ++ [z]).take (lo + 1) ++ S.drop lo).set lo x = S.take lo ++ x :: S.drop lo := by
  rw [getD_take (S ++ [z]) .zero lo (by simp; omega), take_sn S z lo h, List.append_assoc, List.set_append_right _ _ (by rw [List.length_take]; omega)]
  have e : lo - (S.take lo).length = 0 := by rw [List.length_take]; omega
  rw [e]
  rfl
theorem shift_set (S : List Fx) (z : Fx) (k : Nat) (h : k < S.length) : ((S ++ [z]).take (k + 2) ++ S.drop (k + 1)).set (k + 1) (S.getD k .zero) = (S ++ [z]).take (k + 1) ++ S.drop k := by
  rw [cur_set S z _ (k + 1) (by omega), take_sn S z (k + 1) (by omega)]
  congr 1
  rw [List.drop_eq_getElem_cons h]
  congr 1
  simp [List.getD_eq_getElem?_getD, h]
theorem cur_len (S : List Fx) (z : Fx) (k : Nat) (h : k ≤ S.length) : ((S ++ [z]).take (k + 1) ++ S.drop k).length = S.length + 1 := by
  rw [List.length_append, List.length_take, List.length_append, List.length_drop, List.length_singleton]; omega
theorem cur_get (S : List Fx) (z : Fx) (k : Nat) (h : k < S.length) : ((S ++ [z]).take (k + 2) ++ S.drop (k + 1)).getD k .zero = S.getD k .zero := by
  rw [List.getD_eq_getElem?_getD, List.getD_eq_getElem?_getD, List.getElem?_append_left (by rw [List.length_take, List.length_append, List.length_singleton]; omega), List.getElem?_take, if_pos (by omega), List.getElem?_append_left h]
set_option maxHeartbeats 8000000 in
theorem RSet_any (ls : List Fx) (v : Value) (w : World) (rd : FxRd w v ls) (hlen : ls.length ≤ 100000) :
    Calls Tryz.prog 12 #[v] w fun e w' => ∃ v', e = .returned v' ∧ FxBuf w' w.heap.size v' (setF ls) ∧ Chg [] w w' := by
  obtain ⟨aL, n, capL, rfl, rfl, hcL1, hcL2, hxL⟩ := id rd
  unfold maxLen at hcL2
  have Rd := Lib.hid rd
  have HXL := Lib.hid hxL
  clear rd hxL
  go_enter Tryz.func12, Tryz.ntmps12
  go_wp2_with fail
  go_loopw [3, 4] (fun s3 s4 wr => ∃ i : Nat, i ≤ ls.length ∧ s4 = .int .i64 (i : Int) ∧ FxBuf wr w.heap.size s3 (setF (ls.take i)) ∧ Chg [] w wr) (fun _ s4 _ => ls.length - (intOf s4).toNat)
  case atStart => exact ⟨0, Nat.zero_le _, rfl, FxBuf.nil _ _, Chg.refl _ _⟩
  case round =>
    obtain ⟨i, hi, rfl, hb, hch⟩ := hrel
    by_cases hlt : i < ls.length
    · obtain ⟨S, hS⟩ : ∃ S, S = setF (ls.take i) := ⟨_, rfl⟩
      rw [← hS] at hb
      obtain ⟨x, hx⟩ : ∃ x, x = ls.getD i .zero := ⟨_, rfl⟩
      have hSl : S.length ≤ 100000 := by have := setF_len (ls.take i); rw [← hS, List.length_take] at this; omega
      have HSS : Hid (SS S) := Lib.hid (by rw [hS]; exact ss_setF _)
      have HNX : Hid (setF (ls.take (i + 1)) = insF x S) := Lib.hid (by rw [getD_take ls .zero i hlt, setF_snoc, hS, hx])
      obtain ⟨bL, oL, rfl, _, hcL⟩ := HXL.out (by rintro rfl; simp at hlt)
      have cl := hcL i hlt
      rw [← hx] at cl
      have Cl := Lib.hid cl
      have HS := Lib.hid hS
      have Hx := Lib.hid hx
      clear cl hS hx
      clear hcL
      obtain ⟨aO, nO, cO, rfl, rfl, hcO1, hcO2, _⟩ := hb.rd
      unfold maxLen at hcO2
      have Hb := Lib.hid hb
      have Hch := Lib.hid hch
      clear hb hch
      go_wp2_with fail
      obtain ⟨wo, rfl⟩ : ∃ q, q = wr := ⟨_, rfl⟩
      go_loopw [5, 6] (fun s5 s6 wq => ∃ lo hh : Nat, s5 = .int .i64 (lo : Int) ∧ s6 = .int .i64 (hh : Int) ∧ lo ≤ hh ∧ hh ≤ S.length ∧ (∀ j, j < lo → ordF (S.getD j .zero) x < 0) ∧ (∀ j, hh ≤ j → j < S.length → ¬ ordF (S.getD j .zero) x < 0) ∧ Chg [] wo wq) (fun s5 s6 _ => (intOf s6).toNat - (intOf s5).toNat)
      case atStart => exact ⟨0, S.length, rfl, rfl, Nat.zero_le _, Nat.le_refl _, fun j hj => absurd hj (Nat.not_lt_zero _), fun j h1 h2 => absurd h2 (by omega), Chg.refl _ _⟩
      case round =>
        obtain ⟨lo, hh, rfl, rfl, hlh, hhm, hlow, hhigh, hcq⟩ := hrel
        obtain ⟨wq, rfl⟩ : ∃ q, q = wr := ⟨_, rfl⟩
        have Hlow := Lib.hid hlow
        have Hhigh := Lib.hid hhigh
        have Hcq := Lib.hid hcq
        clear hlow hhigh hcq
        by_cases hl2 : lo < hh
        · obtain ⟨md, hmd⟩ : ∃ q, q = (lo + hh) / 2 := ⟨_, rfl⟩
          have hmd1 : lo ≤ md ∧ md < hh := by omega
          have hmdi : ((lo : Int) + (hh : Int)) / 2 = (md : Int) := by omega
          clear hmd
          obtain ⟨gO, cO', he, _, _, _, _, _, hcO⟩ := Hb.out.at (by omega)
          cases he
          obtain ⟨f, hf⟩ : ∃ f, f = S.getD md .zero := ⟨_, rfl⟩
          have cm := hcO md (by omega)
          rw [← hf] at cm
          go_upto_region 8 with fail
          rw [hmdi]
          have hmdS : md < S.length := by omega
          have x0 := Hcq.out.cell (cm 0 (by decide)) (by simp)
          have x1 := Hcq.out.cell (cm 1 (by decide)) (by simp)
          have x2 := Hcq.out.cell (cm 2 (by decide)) (by simp)
          have x3 := Hcq.out.cell (cm 3 (by decide)) (by simp)
          have x4 := Hcq.out.cell (cm 4 (by decide)) (by simp)
          have x5 := Hcq.out.cell (cm 5 (by decide)) (by simp)
          have x6 := Hcq.out.cell (cm 6 (by decide)) (by simp)
          have y0 := (Hch.out.then Hcq.out).cell (Cl.out 0 (by decide)) (by simp)
          have y1 := (Hch.out.then Hcq.out).cell (Cl.out 1 (by decide)) (by simp)
          have y2 := (Hch.out.then Hcq.out).cell (Cl.out 2 (by decide)) (by simp)
          have y3 := (Hch.out.then Hcq.out).cell (Cl.out 3 (by decide)) (by simp)
          have y4 := (Hch.out.then Hcq.out).cell (Cl.out 4 (by decide)) (by simp)
          have y5 := (Hch.out.then Hcq.out).cell (Cl.out 5 (by decide)) (by simp)
          have y6 := (Hch.out.then Hcq.out).cell (Cl.out 6 (by decide)) (by simp)
          simp only [Nat.add_zero] at x0 y0
          clear cm hcO
          have HLE : Hid (∀ W : World, Calls Tryz.prog 34 #[(.agg #[.int .u64 f.at_, .int .i64 f.kind, .int .u64 f.tgt, .int .i64 f.ord, .string f.sym, .int .i64 f.add, .bool f.weak]), (.agg #[.int .u64 x.at_, .int .i64 x.kind, .int .u64 x.tgt, .int .i64 x.ord, .string x.sym, .int .i64 x.add, .bool x.weak])] W fun e w' => e = .returned (.bool (decide (ordF f x < 0))) ∧ Chg [] W w') := Lib.hid (RLess_any f x)
          obtain ⟨lt, hlt0⟩ : ∃ lt, lt = decide (ordF f x < 0) := ⟨_, rfl⟩
          rw [← hlt0] at HLE
          have Hf := Lib.hid hf
          have Hlt0 := Lib.hid hlt0
          clear hf hlt0
          refine wp_region_noPanic ?_
          refine wp_region_held_drew (S := fun w' => Chg [] wq w') (by kernel_rfl) ((Chg.refl _ _).drew) (fun hHeld => ?_)
          refine take_read (i := 0) (v := ?_) (by simp only [List.getElem?_toArray, List.getElem?_cons_zero]; rfl) (by kernel_rfl) (by kernel_rfl) (by kernel_rfl) (fun _ _ _ h => h) hHeld ?_ ?_
          rotate_left
          · intro w hSw
            go_simp
            try with_reducible rfl
          try simp only [Act.put, List.setIfInBounds_toArray, List.set_cons_zero, List.set_cons_succ]
          refine take_read (i := 1) (v := ?_) (by simp only [List.getElem?_toArray, List.getElem?_cons_succ, List.getElem?_cons_zero]; rfl) (by kernel_rfl) (by kernel_rfl) (by kernel_rfl) (fun _ _ _ h => h) hHeld ?_ ?_
          rotate_left
          · intro w hSw
            go_simp
            try with_reducible rfl
          try simp only [Act.put, List.setIfInBounds_toArray, List.set_cons_zero, List.set_cons_succ]
          refine take_read (i := 2) (v := ?_) (by simp only [List.getElem?_toArray, List.getElem?_cons_succ, List.getElem?_cons_zero]; rfl) (by kernel_rfl) (by kernel_rfl) (by kernel_rfl) (fun _ _ _ h => h) hHeld ?_ ?_
          rotate_left
          · intro w hSw
            go_simp
            try with_reducible rfl
          try simp only [Act.put, List.setIfInBounds_toArray, List.set_cons_zero, List.set_cons_succ]
          refine take_read (i := 3) (v := ?_) (by simp only [List.getElem?_toArray, List.getElem?_cons_succ, List.getElem?_cons_zero]; rfl) (by kernel_rfl) (by kernel_rfl) (by kernel_rfl) (fun _ _ _ h => h) hHeld ?_ ?_
          rotate_left
          · intro w hSw
            have x0 := hSw.cell x0 (by simp); have x1 := hSw.cell x1 (by simp); have x2 := hSw.cell x2 (by simp); have x3 := hSw.cell x3 (by simp); have x4 := hSw.cell x4 (by simp); have x5 := hSw.cell x5 (by simp); have x6 := hSw.cell x6 (by simp)
            go_simp
            try with_reducible rfl
          try simp only [Act.put, List.setIfInBounds_toArray, List.set_cons_zero, List.set_cons_succ]
          refine take_read (i := 4) (v := ?_) (by simp only [List.getElem?_toArray, List.getElem?_cons_succ, List.getElem?_cons_zero]; rfl) (by kernel_rfl) (by kernel_rfl) (by kernel_rfl) (fun _ _ _ h => h) hHeld ?_ ?_
          rotate_left
          · intro w hSw
            go_simp
            try with_reducible rfl
          try simp only [Act.put, List.setIfInBounds_toArray, List.set_cons_zero, List.set_cons_succ]
          refine take_read (i := 5) (v := ?_) (by simp only [List.getElem?_toArray, List.getElem?_cons_succ, List.getElem?_cons_zero]; rfl) (by kernel_rfl) (by kernel_rfl) (by kernel_rfl) (fun _ _ _ h => h) hHeld ?_ ?_
          rotate_left
          · intro w hSw
            go_simp
            try with_reducible rfl
          try simp only [Act.put, List.setIfInBounds_toArray, List.set_cons_zero, List.set_cons_succ]
          refine take_read (i := 6) (v := ?_) (by simp only [List.getElem?_toArray, List.getElem?_cons_succ, List.getElem?_cons_zero]; rfl) (by kernel_rfl) (by kernel_rfl) (by kernel_rfl) (fun _ _ _ h => h) hHeld ?_ ?_
          rotate_left
          · intro w hSw
            go_simp
            try with_reducible rfl
          try simp only [Act.put, List.setIfInBounds_toArray, List.set_cons_zero, List.set_cons_succ]
          refine take_read (i := 7) (v := ?_) (by simp only [List.getElem?_toArray, List.getElem?_cons_succ, List.getElem?_cons_zero]; rfl) (by kernel_rfl) (by kernel_rfl) (by kernel_rfl) (fun _ _ _ h => h) hHeld ?_ ?_
          rotate_left
          · intro w hSw
            have y0 := hSw.cell y0 (by simp); have y1 := hSw.cell y1 (by simp); have y2 := hSw.cell y2 (by simp); have y3 := hSw.cell y3 (by simp); have y4 := hSw.cell y4 (by simp); have y5 := hSw.cell y5 (by simp); have y6 := hSw.cell y6 (by simp)
            go_simp
            try with_reducible rfl
          try simp only [Act.put, List.setIfInBounds_toArray, List.set_cons_zero, List.set_cons_succ]
          refine wpAnyH_ready (rs := [8]) (by kernel_rfl) (by simp) ?_
          refine AllReadyH.cons rfl (fun K hK => ?_) AllReadyH.nil
          go_simp
          refine (HLE.out wq.drew).mono ?_
          rintro e w2 ⟨rfl, h2⟩
          have H2 : Hid (Chg [] wq.drew w2) := Lib.hid (h2)
          clear h2
          refine hK.out _ _ (show Chg [] wq w2 from ((Chg.refl _ _).drew).then H2.out) (fun hHeld2 => ?_)
          clear hK hHeld K
          have hHeld := hHeld2
          clear hHeld2
          try (unfold Act.put; simp only [List.setIfInBounds_toArray, List.set_cons_zero, List.set_cons_succ])
          refine wpAnyH_done (by kernel_rfl) ?_ _
          refine NoPanic.normal ?_
          clear x0 x1 x2 x3 x4 x5 x6 y0 y1 y2 y3 y4 y5 y6 hHeld
          have C2 : Hid (Chg [] wo w2) := Lib.hid (Hcq.out.then (((Chg.refl _ _).drew).then H2.out))
          cases lt with
          | true =>
            have HL : Hid (ordF (S.getD md .zero) x < 0) := Lib.hid (by have := Hlt0.out; rw [← Hf.out]; simpa using this.symm)
            go_wp2
            go_roundw
            case rel => exact ⟨md + 1, hh, by go_num, rfl, by omega, hhm, ss_low HSS.out (by omega) HL.out, Hhigh.out, C2.out⟩
            case measure => simp [intOf]; omega
          | false =>
            have HL : Hid (¬ ordF (S.getD md .zero) x < 0) := Lib.hid (by have := Hlt0.out; rw [← Hf.out]; simpa using this.symm)
            go_wp2
            go_roundw
            case rel => exact ⟨lo, md, rfl, rfl, by omega, by omega, Hlow.out, ss_high HSS.out HL.out, C2.out⟩
            case measure => simp [intOf]; omega
        · obtain rfl : lo = hh := by omega
          have HINS := Lib.hid (insF_at x S lo HSS.out hhm (fun j y hj hy => by have := Hlow.out j hj; rw [List.getD_eq_getElem?_getD, hy] at this; exact this) (fun j y hj hy => by have h1 : j < S.length := (List.getElem?_eq_some_iff.1 hy).1; have := Hhigh.out j hj h1; rw [List.getD_eq_getElem?_getD, hy] at this; exact this))
          have y0 := (Hch.out.then Hcq.out).cell (Cl.out 0 (by decide)) (by simp)
          have y1 := (Hch.out.then Hcq.out).cell (Cl.out 1 (by decide)) (by simp)
          have y2 := (Hch.out.then Hcq.out).cell (Cl.out 2 (by decide)) (by simp)
          have y3 := (Hch.out.then Hcq.out).cell (Cl.out 3 (by decide)) (by simp)
          have y4 := (Hch.out.then Hcq.out).cell (Cl.out 4 (by decide)) (by simp)
          have y5 := (Hch.out.then Hcq.out).cell (Cl.out 5 (by decide)) (by simp)
          have y6 := (Hch.out.then Hcq.out).cell (Cl.out 6 (by decide)) (by simp)
          simp only [Nat.add_zero] at y0
          by_cases hlo : lo < S.length
          · obtain ⟨gO, cO', he, _, _, _, _, _, hcO⟩ := Hb.out.at (by omega)
            cases he
            obtain ⟨f, hf⟩ : ∃ f, f = S.getD lo .zero := ⟨_, rfl⟩
            have cm := hcO lo hlo
            rw [← hf] at cm
            have x0 := Hcq.out.cell (cm 0 (by decide)) (by simp)
            have x1 := Hcq.out.cell (cm 1 (by decide)) (by simp)
            have x2 := Hcq.out.cell (cm 2 (by decide)) (by simp)
            have x3 := Hcq.out.cell (cm 3 (by decide)) (by simp)
            have x4 := Hcq.out.cell (cm 4 (by decide)) (by simp)
            have x5 := Hcq.out.cell (cm 5 (by decide)) (by simp)
            have x6 := Hcq.out.cell (cm 6 (by decide)) (by simp)
            simp only [Nat.add_zero] at x0
            clear cm hcO
            have q := fx_eql f x
            by_cases hfx : f = x
            · have e : decide (f = x) = true := by simpa using hfx
              rw [e] at q
              clear e
              have HEQ : Hid (insF x S = S) := by
                refine Lib.hid ?_
                rw [HINS.out, if_pos]
                rw [List.getElem?_eq_getElem hlo, ← hfx, hf]
                simp [List.getD_eq_getElem?_getD, hlo]
              have Hfx := Lib.hid hfx
              have Hf := Lib.hid hf
              clear hfx hf
              go_wp2_with fail
              go_quiet (fail)
              go_wp2
              go_roundw
              case rel => exact ⟨i + 1, hlt, by go_num, by rw [HNX.out, HEQ.out]; exact Hb.out.pure (Hcq.out.drewN _), Hch.out.then (Hcq.out.drewN _)⟩
              case measure => simp [intOf]; omega
            · have e : decide (f = x) = false := by simpa using hfx
              rw [e] at q
              clear e
              have HEQ : Hid (insF x S = S.take lo ++ x :: S.drop lo) := by
                refine Lib.hid ?_
                rw [HINS.out, if_neg]
                rw [List.getElem?_eq_getElem hlo]
                intro e
                refine hfx ?_
                rw [hf]
                simpa [List.getD_eq_getElem?_getD, hlo] using e
              have Hfx := Lib.hid hfx
              have Hf := Lib.hid hf
              clear hfx hf
              go_wp2_with fail
              go_quiet (fail)
              clear q x0 x1 x2 x3 x4 x5 x6
              obtain ⟨wa, hwa⟩ : ∃ q, q = wq.drewN nq := ⟨_, rfl⟩
              rw [← hwa]
              have CA : Hid (Chg [] wo wa) := Lib.hid (by rw [hwa]; exact Hcq.out.drewN _)
              clear hwa
              have BA : Hid (FxBuf wa w.heap.size (.slice (some ⟨gO, 0, none⟩) S.length cO) S) := Lib.hid (Hb.out.pure CA.out)
              have CB : Hid (Chg [] wa (wa.alloc (.cells #[.int .u64 0, .int .i64 0, .int .u64 0, .int .i64 0, .string ⟨#[]⟩, .int .i64 0, .bool false] 53))) := Lib.hid ((Chg.refl _ _).alloc _)
              have HQ : Hid ((wa.alloc (.cells #[.int .u64 0, .int .i64 0, .int .u64 0, .int .i64 0, .string ⟨#[]⟩, .int .i64 0, .bool false] 53)).heap[wa.heap.size]? = some (.cells #[.int .u64 0, .int .i64 0, .int .u64 0, .int .i64 0, .string ⟨#[]⟩, .int .i64 0, .bool false] 53 (0, 0))) := Lib.hid (heap_alloc_eq _ _)
              have BB := Lib.hid (BA.out.pure CB.out)
              have HBS := Lib.hid (Nat.le_trans (Nat.le_trans Hch.out.size CA.out.size) CB.out.size)
              go_wp2_with (at_builtin; refine app_fx rfl _ _ rfl w.heap.size (.slice (some ⟨gO, 0, none⟩) S.length cO) S rfl BB.out wa.heap.size Fx.zero rfl HQ.out (by omega) HBS.out ?_; intro v' wb hov hgv; refine Hid.out ?_)
              refine Lib.hid ?_
              have BV : Hid (FxBuf wb w.heap.size v' (S ++ [Fx.zero])) := Lib.hid (hov)
              have HVA := Lib.hid (fun b hb => (World.ownsRow.lt BB.out b hb).1)
              have CV : Hid (Chg [] w wb) := Lib.hid (((Hch.out.then CA.out).then CB.out).trans (Chg.of_grown hgv) (fun i hm hw => by have := HVA.out i (by simpa using hm); omega))
              clear hov hgv CB HQ BB HBS HVA BA
              have hL1 : (S ++ [Fx.zero]).length = S.length + 1 := by simp
              obtain ⟨gV, capV, he, hbgV, _, hcapV, _, _, _⟩ := BV.out.at (by omega)
              rw [hL1] at he
              subst he
              unfold maxLen at hcapV
              clear hL1 y0 y1 y2 y3 y4 y5 y6
              have HbgV := Lib.hid hbgV
              clear hbgV
              go_wp2_with fail
              go_loopw [8] (fun s8 wz => ∃ k : Nat, s8 = .int .i64 (k : Int) ∧ lo ≤ k ∧ k ≤ S.length ∧ FxBuf wz w.heap.size (.slice (some ⟨gV, 0, none⟩) (S.length + 1) capV) ((S ++ [Fx.zero]).take (k + 1) ++ S.drop k) ∧ Chg [] w wz) (fun s8 _ => (intOf s8).toNat)
              case atStart =>
                refine ⟨S.length, by go_num, hhm, Nat.le_refl _, ?_, CV.out⟩
                rw [List.drop_length, List.append_nil, List.take_of_length_le (by simp)]
                exact BV.out
              case round =>
                obtain ⟨k, rfl, hlk, hkm, hbz, hcz⟩ := hrel
                obtain ⟨wz, rfl⟩ : ∃ q, q = wr := ⟨_, rfl⟩
                have hcl := cur_len S .zero k hkm
                obtain ⟨_, _, he, _, _, _, _, hfz, hcz2⟩ := hbz.at (by omega)
                rw [hcl] at he hcz2
                cases he
                have BZ := Lib.hid (hbz)
                have CZ := Lib.hid (hcz)
                clear hbz hcz
                by_cases hk : lo < k
                · obtain ⟨k, rfl⟩ : ∃ k', k = k' + 1 := ⟨k - 1, by omega⟩
                  obtain ⟨f1, hf1⟩ : ∃ q, q = S.getD k .zero := ⟨_, rfl⟩
                  obtain ⟨f2, hf2⟩ : ∃ q, q = ((S ++ [Fx.zero]).take (k + 1 + 1) ++ S.drop (k + 1)).getD (k + 1) .zero := ⟨_, rfl⟩
                  have c1 := hcz2 k (by omega)
                  have c2 := hcz2 (k + 1) (by omega)
                  rw [cur_get S .zero k (by omega), ← hf1] at c1
                  rw [← hf2] at c2
                  have p0 := (Chg.refl [] wz).cell (c1 0 (by decide)) (by simp)
                  have p1 := (Chg.refl [] wz).cell (c1 1 (by decide)) (by simp)
                  have p2 := (Chg.refl [] wz).cell (c1 2 (by decide)) (by simp)
                  have p3 := (Chg.refl [] wz).cell (c1 3 (by decide)) (by simp)
                  have p4 := (Chg.refl [] wz).cell (c1 4 (by decide)) (by simp)
                  have p5 := (Chg.refl [] wz).cell (c1 5 (by decide)) (by simp)
                  have p6 := (Chg.refl [] wz).cell (c1 6 (by decide)) (by simp)
                  have r0 := (Chg.refl [] wz).cell (c2 0 (by decide)) (by simp)
                  have r1 := (Chg.refl [] wz).cell (c2 1 (by decide)) (by simp)
                  have r2 := (Chg.refl [] wz).cell (c2 2 (by decide)) (by simp)
                  have r3 := (Chg.refl [] wz).cell (c2 3 (by decide)) (by simp)
                  have r4 := (Chg.refl [] wz).cell (c2 4 (by decide)) (by simp)
                  have r5 := (Chg.refl [] wz).cell (c2 5 (by decide)) (by simp)
                  have r6 := (Chg.refl [] wz).cell (c2 6 (by decide)) (by simp)
                  simp only [Nat.add_zero] at p0 r0
                  have z0 := hfz ((k + 1) * 7)
                  have z1 := hfz ((k + 1) * 7 + 1)
                  have z2 := hfz ((k + 1) * 7 + 2)
                  have z3 := hfz ((k + 1) * 7 + 3)
                  have z4 := hfz ((k + 1) * 7 + 4)
                  have z5 := hfz ((k + 1) * 7 + 5)
                  have z6 := hfz ((k + 1) * 7 + 6)
                  have Hf1 := Lib.hid hf1
                  have Hf2 := Lib.hid hf2
                  have Hcl := Lib.hid hcl
                  clear hf1 hf2 hcl
                  clear c1 c2 hcz2 hfz
                  go_wp2
                  go_roundw
                  case rel =>
                    refine ⟨k, by go_num, by omega, by omega, ?_, CZ.out.trans (setW_chg wz gV ((k + 1) * 7) f1) (fun b hb hw => by have := HbgV.out; rw [List.mem_singleton] at hb; omega)⟩
                    rw [← shift_set S .zero k (by omega), ← Hf1.out]
                    exact BZ.out.set rfl (k + 1) (by rw [Hcl.out]; omega) f1
                  case measure => simp [intOf]
                · obtain rfl : lo = k := by omega
                  obtain ⟨f2, hf2⟩ : ∃ q, q = ((S ++ [Fx.zero]).take (lo + 1) ++ S.drop lo).getD lo .zero := ⟨_, rfl⟩
                  have c2 := hcz2 lo (by omega)
                  rw [← hf2] at c2
                  have r0 := (Chg.refl [] wz).cell (c2 0 (by decide)) (by simp)
                  have r1 := (Chg.refl [] wz).cell (c2 1 (by decide)) (by simp)
                  have r2 := (Chg.refl [] wz).cell (c2 2 (by decide)) (by simp)
                  have r3 := (Chg.refl [] wz).cell (c2 3 (by decide)) (by simp)
                  have r4 := (Chg.refl [] wz).cell (c2 4 (by decide)) (by simp)
                  have r5 := (Chg.refl [] wz).cell (c2 5 (by decide)) (by simp)
                  have r6 := (Chg.refl [] wz).cell (c2 6 (by decide)) (by simp)
                  simp only [Nat.add_zero] at r0
                  have z0 := hfz (lo * 7)
                  have z1 := hfz (lo * 7 + 1)
                  have z2 := hfz (lo * 7 + 2)
                  have z3 := hfz (lo * 7 + 3)
                  have z4 := hfz (lo * 7 + 4)
                  have z5 := hfz (lo * 7 + 5)
                  have z6 := hfz (lo * 7 + 6)
                  have y0 := CZ.out.cell (Cl.out 0 (by decide)) (by simp)
                  have y1 := CZ.out.cell (Cl.out 1 (by decide)) (by simp)
                  have y2 := CZ.out.cell (Cl.out 2 (by decide)) (by simp)
                  have y3 := CZ.out.cell (Cl.out 3 (by decide)) (by simp)
                  have y4 := CZ.out.cell (Cl.out 4 (by decide)) (by simp)
                  have y5 := CZ.out.cell (Cl.out 5 (by decide)) (by simp)
                  have y6 := CZ.out.cell (Cl.out 6 (by decide)) (by simp)
                  simp only [Nat.add_zero] at y0
                  have Hf2 := Lib.hid hf2
                  have Hcl := Lib.hid hcl
                  clear hf2 hcl
                  clear c2 hcz2 hfz
                  go_wp2
                  go_roundw
                  case rel =>
                    refine ⟨i + 1, hlt, by go_num, ?_, CZ.out.trans (setW_chg wz gV (lo * 7) x) (fun b hb hw => by have := HbgV.out; rw [List.mem_singleton] at hb; omega)⟩
                    rw [HNX.out, HEQ.out, ← cur_set S .zero x lo hhm]
                    exact BZ.out.set rfl lo (by rw [Hcl.out]; omega) x
                  case measure => simp [intOf]; omega
          · have hlo2 : lo = S.length := by omega
            have HEQ : Hid (insF x S = S.take lo ++ x :: S.drop lo) := by
              refine Lib.hid ?_
              rw [HINS.out, if_neg]
              rw [List.getElem?_eq_none (by omega)]
              intro e
              cases e
            clear hlo2
            go_wp2_with fail
            go_quiet (fail)
            clear hlo
            obtain ⟨wa, hwa⟩ : ∃ q, q = wq.drewN nq := ⟨_, rfl⟩
            rw [← hwa]
            have CA : Hid (Chg [] wo wa) := Lib.hid (by rw [hwa]; exact Hcq.out.drewN _)
            clear hwa
            have BA : Hid (FxBuf wa w.heap.size (.slice aO S.length cO) S) := Lib.hid (Hb.out.pure CA.out)
            have CB : Hid (Chg [] wa (wa.alloc (.cells #[.int .u64 0, .int .i64 0, .int .u64 0, .int .i64 0, .string ⟨#[]⟩, .int .i64 0, .bool false] 53))) := Lib.hid ((Chg.refl _ _).alloc _)
            have HQ : Hid ((wa.alloc (.cells #[.int .u64 0, .int .i64 0, .int .u64 0, .int .i64 0, .string ⟨#[]⟩, .int .i64 0, .bool false] 53)).heap[wa.heap.size]? = some (.cells #[.int .u64 0, .int .i64 0, .int .u64 0, .int .i64 0, .string ⟨#[]⟩, .int .i64 0, .bool false] 53 (0, 0))) := Lib.hid (heap_alloc_eq _ _)
            have BB := Lib.hid (BA.out.pure CB.out)
            have HBS := Lib.hid (Nat.le_trans (Nat.le_trans Hch.out.size CA.out.size) CB.out.size)
            go_wp2_with (at_builtin; refine app_fx rfl _ _ rfl w.heap.size (.slice aO S.length cO) S rfl BB.out wa.heap.size Fx.zero rfl HQ.out (by omega) HBS.out ?_; intro v' wb hov hgv; refine Hid.out ?_)
            refine Lib.hid ?_
            have BV : Hid (FxBuf wb w.heap.size v' (S ++ [Fx.zero])) := Lib.hid (hov)
            have HVA := Lib.hid (fun b hb => (World.ownsRow.lt BB.out b hb).1)
            have CV : Hid (Chg [] w wb) := Lib.hid (((Hch.out.then CA.out).then CB.out).trans (Chg.of_grown hgv) (fun i hm hw => by have := HVA.out i (by simpa using hm); omega))
            clear hov hgv CB HQ BB HBS HVA BA
            have hL1 : (S ++ [Fx.zero]).length = S.length + 1 := by simp
            obtain ⟨gV, capV, he, hbgV, _, hcapV, _, _, _⟩ := BV.out.at (by omega)
            rw [hL1] at he
            subst he
            unfold maxLen at hcapV
            clear hL1 y0 y1 y2 y3 y4 y5 y6
            have HbgV := Lib.hid hbgV
            clear hbgV
            go_wp2_with fail
            go_loopw [8] (fun s8 wz => ∃ k : Nat, s8 = .int .i64 (k : Int) ∧ lo ≤ k ∧ k ≤ S.length ∧ FxBuf wz w.heap.size (.slice (some ⟨gV, 0, none⟩) (S.length + 1) capV) ((S ++ [Fx.zero]).take (k + 1) ++ S.drop k) ∧ Chg [] w wz) (fun s8 _ => (intOf s8).toNat)
            case atStart =>
              refine ⟨S.length, by go_num, hhm, Nat.le_refl _, ?_, CV.out⟩
              rw [List.drop_length, List.append_nil, List.take_of_length_le (by simp)]
              exact BV.out
            case round =>
              obtain ⟨k, rfl, hlk, hkm, hbz, hcz⟩ := hrel
              obtain ⟨wz, rfl⟩ : ∃ q, q = wr := ⟨_, rfl⟩
              have hcl := cur_len S .zero k hkm
              obtain ⟨_, _, he, _, _, _, _, hfz, hcz2⟩ := hbz.at (by omega)
              rw [hcl] at he hcz2
              cases he
              have BZ := Lib.hid (hbz)
              have CZ := Lib.hid (hcz)
              clear hbz hcz
              by_cases hk : lo < k
              · obtain ⟨k, rfl⟩ : ∃ k', k = k' + 1 := ⟨k - 1, by omega⟩
                obtain ⟨f1, hf1⟩ : ∃ q, q = S.getD k .zero := ⟨_, rfl⟩
                obtain ⟨f2, hf2⟩ : ∃ q, q = ((S ++ [Fx.zero]).take (k + 1 + 1) ++ S.drop (k + 1)).getD (k + 1) .zero := ⟨_, rfl⟩
                have c1 := hcz2 k (by omega)
                have c2 := hcz2 (k + 1) (by omega)
                rw [cur_get S .zero k (by omega), ← hf1] at c1
                rw [← hf2] at c2
                have p0 := (Chg.refl [] wz).cell (c1 0 (by decide)) (by simp)
                have p1 := (Chg.refl [] wz).cell (c1 1 (by decide)) (by simp)
                have p2 := (Chg.refl [] wz).cell (c1 2 (by decide)) (by simp)
                have p3 := (Chg.refl [] wz).cell (c1 3 (by decide)) (by simp)
                have p4 := (Chg.refl [] wz).cell (c1 4 (by decide)) (by simp)
                have p5 := (Chg.refl [] wz).cell (c1 5 (by decide)) (by simp)
                have p6 := (Chg.refl [] wz).cell (c1 6 (by decide)) (by simp)
                have r0 := (Chg.refl [] wz).cell (c2 0 (by decide)) (by simp)
                have r1 := (Chg.refl [] wz).cell (c2 1 (by decide)) (by simp)
                have r2 := (Chg.refl [] wz).cell (c2 2 (by decide)) (by simp)
                have r3 := (Chg.refl [] wz).cell (c2 3 (by decide)) (by simp)
                have r4 := (Chg.refl [] wz).cell (c2 4 (by decide)) (by simp)
                have r5 := (Chg.refl [] wz).cell (c2 5 (by decide)) (by simp)
                have r6 := (Chg.refl [] wz).cell (c2 6 (by decide)) (by simp)
                simp only [Nat.add_zero] at p0 r0
                have z0 := hfz ((k + 1) * 7)
                have z1 := hfz ((k + 1) * 7 + 1)
                have z2 := hfz ((k + 1) * 7 + 2)
                have z3 := hfz ((k + 1) * 7 + 3)
                have z4 := hfz ((k + 1) * 7 + 4)
                have z5 := hfz ((k + 1) * 7 + 5)
                have z6 := hfz ((k + 1) * 7 + 6)
                have Hf1 := Lib.hid hf1
                have Hf2 := Lib.hid hf2
                have Hcl := Lib.hid hcl
                clear hf1 hf2 hcl
                clear c1 c2 hcz2 hfz
                go_wp2
                go_roundw
                case rel =>
                  refine ⟨k, by go_num, by omega, by omega, ?_, CZ.out.trans (setW_chg wz gV ((k + 1) * 7) f1) (fun b hb hw => by have := HbgV.out; rw [List.mem_singleton] at hb; omega)⟩
                  rw [← shift_set S .zero k (by omega), ← Hf1.out]
                  exact BZ.out.set rfl (k + 1) (by rw [Hcl.out]; omega) f1
                case measure => simp [intOf]
              · obtain rfl : lo = k := by omega
                obtain ⟨f2, hf2⟩ : ∃ q, q = ((S ++ [Fx.zero]).take (lo + 1) ++ S.drop lo).getD lo .zero := ⟨_, rfl⟩
                have c2 := hcz2 lo (by omega)
                rw [← hf2] at c2
                have r0 := (Chg.refl [] wz).cell (c2 0 (by decide)) (by simp)
                have r1 := (Chg.refl [] wz).cell (c2 1 (by decide)) (by simp)
                have r2 := (Chg.refl [] wz).cell (c2 2 (by decide)) (by simp)
                have r3 := (Chg.refl [] wz).cell (c2 3 (by decide)) (by simp)
                have r4 := (Chg.refl [] wz).cell (c2 4 (by decide)) (by simp)
                have r5 := (Chg.refl [] wz).cell (c2 5 (by decide)) (by simp)
                have r6 := (Chg.refl [] wz).cell (c2 6 (by decide)) (by simp)
                simp only [Nat.add_zero] at r0
                have z0 := hfz (lo * 7)
                have z1 := hfz (lo * 7 + 1)
                have z2 := hfz (lo * 7 + 2)
                have z3 := hfz (lo * 7 + 3)
                have z4 := hfz (lo * 7 + 4)
                have z5 := hfz (lo * 7 + 5)
                have z6 := hfz (lo * 7 + 6)
                have y0 := CZ.out.cell (Cl.out 0 (by decide)) (by simp)
                have y1 := CZ.out.cell (Cl.out 1 (by decide)) (by simp)
                have y2 := CZ.out.cell (Cl.out 2 (by decide)) (by simp)
                have y3 := CZ.out.cell (Cl.out 3 (by decide)) (by simp)
                have y4 := CZ.out.cell (Cl.out 4 (by decide)) (by simp)
                have y5 := CZ.out.cell (Cl.out 5 (by decide)) (by simp)
                have y6 := CZ.out.cell (Cl.out 6 (by decide)) (by simp)
                simp only [Nat.add_zero] at y0
                have Hf2 := Lib.hid hf2
                have Hcl := Lib.hid hcl
                clear hf2 hcl
                clear c2 hcz2 hfz
                go_wp2
                go_roundw
                case rel =>
                  refine ⟨i + 1, hlt, by go_num, ?_, CZ.out.trans (setW_chg wz gV (lo * 7) x) (fun b hb hw => by have := HbgV.out; rw [List.mem_singleton] at hb; omega)⟩
                  rw [HNX.out, HEQ.out, ← cur_set S .zero x lo hhm]
                  exact BZ.out.set rfl lo (by rw [Hcl.out]; omega) x
                case measure => simp [intOf]; omega
    · obtain rfl : i = ls.length := by omega
      have Hb := Lib.hid hb
      have Hch := Lib.hid hch
      clear hb hch
      go_wp2
      go_ret
      exact ⟨_, rfl, by have := Hb.out; rw [List.take_length] at this; exact this, Hch.out⟩
end Go.Proofs.YtkomocgodljecaaGreatDoor
