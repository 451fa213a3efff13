/- CursorNumbers, walked. -/
import Derived.Test.YtpodphfdoonidaaDoorKnown1
import Derived.Test.YtpodphfdoonidaaDoorInt
import Derived.OpenShut
import Derived.Lib.SmallJoins
namespace Go.Proofs.YtpodphfdoonidaaDoor
open Go.RowKit Go.ChangeShapes Go.WideShapes
set_option maxRecDepth 100000

theorem array8 {α : Type} {cs : Array α} (h : cs.size = 8) : ∃ c0 c1 c2 c3 c4 c5 c6 c7, cs = #[c0, c1, c2, c3, c4, c5, c6, c7] := by
  obtain ⟨l⟩ := cs
  match l, h with
  | [c0, c1, c2, c3, c4, c5, c6, c7], _ => exact ⟨c0, c1, c2, c3, c4, c5, c6, c7, rfl⟩
theorem one_byte {H : Type} {enc : TypeId × Value → H} {W : World} {base : Nat} {sp : Nat → Bool} {hd : Bool} {m : Nat} {c : Value} {x : Option (DataW H × List MemPlace)} {k : Nat} {xs : List (DataW H × List MemPlace)} (hk : k < xs.length) (hx : xs[k]? = x)
    (h : DataW.trod enc Tryd.prog W base sp hd m 5 [c] = x) : ∃ b : UInt8, c = .int .u8 b.toNat := by
  rw [← hx, List.getElem?_eq_getElem hk] at h
  obtain ⟨n, hc, _, hw⟩ := DataW.trod_int Tryd.underlying5 h
  obtain ⟨a, rfl, ha⟩ := nat_u8 n hw
  refine ⟨UInt8.ofNat a, ?_⟩
  have e : (UInt8.ofNat a).toNat = a := by simp; omega
  rw [e]; simpa using hc
theorem open_eight {H : Type} {enc : TypeId × Value → H} {W : World} {r : Reach} {b0 base : Nat} {sp : Nat → Bool} {hd : Bool} {v : Value} {d : DataW H} {p : List MemPlace}
    (hv : Value.okWide Tryd.prog W r b0 45 v) (h : DataW.Trod enc Tryd.prog W base sp hd 45 v d p) :
    ∃ x0 x1 x2 x3 x4 x5 x6 x7 : UInt8, v = .agg #[.int .u8 x0.toNat, .int .u8 x1.toNat, .int .u8 x2.toNat, .int .u8 x3.toNat, .int .u8 x4.toNat, .int .u8 x5.toNat, .int .u8 x6.toNat, .int .u8 x7.toNat] := by
  unfold Value.okWide at hv
  rw [Tryd.underlying45] at hv
  obtain ⟨cs, rfl, hsz, _⟩ := hv
  rw [show Tryd.prog.cellsOf 45 = 8 from by kernel_rfl] at hsz
  obtain ⟨c0, c1, c2, c3, c4, c5, c6, c7, rfl⟩ := array8 hsz
  obtain ⟨fuel, hf⟩ := h
  obtain ⟨xs, m, _, _, _, hl, hg⟩ := DataW.trod_array Tryd.underlying45 hf
  rw [show Tryd.prog.cellsOf 5 = 1 from by kernel_rfl] at hg
  obtain ⟨x0, rfl⟩ := one_byte (k := 0) (by omega) rfl (hg 0 (by decide))
  obtain ⟨x1, rfl⟩ := one_byte (k := 1) (by omega) rfl (hg 1 (by decide))
  obtain ⟨x2, rfl⟩ := one_byte (k := 2) (by omega) rfl (hg 2 (by decide))
  obtain ⟨x3, rfl⟩ := one_byte (k := 3) (by omega) rfl (hg 3 (by decide))
  obtain ⟨x4, rfl⟩ := one_byte (k := 4) (by omega) rfl (hg 4 (by decide))
  obtain ⟨x5, rfl⟩ := one_byte (k := 5) (by omega) rfl (hg 5 (by decide))
  obtain ⟨x6, rfl⟩ := one_byte (k := 6) (by omega) rfl (hg 6 (by decide))
  obtain ⟨x7, rfl⟩ := one_byte (k := 7) (by omega) rfl (hg 7 (by decide))
  exact ⟨x0, x1, x2, x3, x4, x5, x6, x7, rfl⟩
theorem Rd_blk {w : World} {b : Nat} {xs : List Value} {T : TypeId} {fz : Nat × Nat} (h : w.heap[b]? = some (.cells xs.toArray T fz)) (n : Nat) (hn : n = xs.length) (hl : xs.length ≤ maxLen) : Rd w (.slice (some ⟨b, 0, none⟩) n n) xs := by
  refine ⟨_, _, _, rfl, hn, Nat.le_refl _, by rw [hn]; exact hl, fun _ => ⟨_, _, rfl, fun j _ => ?_⟩⟩
  rw [Nat.zero_add, cell_of_heap h]
  simp
theorem Rd_blk2 {w : World} {b : Nat} {c : Array Value} {xs : List Value} {T : TypeId} {fz : Nat × Nat} (h : w.heap[b]? = some (.cells c T fz)) (hc : c = xs.toArray) (n : Nat) (hn : n = xs.length) (hl : xs.length ≤ maxLen) : Rd w (.slice (some ⟨b, 0, none⟩) n n) xs := by
  subst hc
  exact Rd_blk h n hn hl

set_option maxHeartbeats 1000000 in
theorem CursorNumbers_no (x0 x1 x2 x3 x4 x5 x6 x7 : UInt8) (m : Int) (w : World) (hg : Env w) (hok : okSize m = false) :
    Calls Tryd.prog 9 #[.agg #[.int .u8 x0.toNat, .int .u8 x1.toNat, .int .u8 x2.toNat, .int .u8 x3.toNat, .int .u8 x4.toNat, .int .u8 x5.toNat, .int .u8 x6.toNat, .int .u8 x7.toNat], .int .i64 m] w fun e w' => e = .returned (.bool true) ∧ Chg [] w w' := by
  have h1 : ¬ m = 1 ∧ ¬ m = 2 ∧ ¬ m = 4 ∧ ¬ m = 8 := by simpa [okSize] using hok
  obtain ⟨h1, h2, h3, h4⟩ := h1
  have e1 : (m != 1) = true := by simpa using h1
  have e2 : (m != 2) = true := by simpa using h2
  have e4 : (m != 4) = true := by simpa using h3
  have e8 : (m != 8) = true := by simpa using h4
  obtain ⟨l, hl⟩ : ∃ l, l = [x0, x1, x2, x3, x4, x5, x6, x7] := ⟨_, rfl⟩
  have HV : Hid (∀ big, numberV ⟨l, 0, big, false⟩ m = 0) := Lib.hid (fun big => by unfold numberV; rw [hok]; rfl)
  have HS : Hid (∀ big, numberS ⟨l, 0, big, false⟩ m = ⟨l, 0, big, true⟩) := Lib.hid (fun big => by unfold numberS; rw [hok]; rfl)
  have Hl := Lib.hid hl
  have Hg := Lib.hid hg
  clear hl hg
  clear h1 h2 h3 h4 hok
  go_enter Tryd.func9, Tryd.ntmps9
  have H0 := Lib.hid ((Curs.start Hg.out).alloc (.cells #[.int .u8 x0.toNat, .int .u8 x1.toNat, .int .u8 x2.toNat, .int .u8 x3.toNat, .int .u8 x4.toNat, .int .u8 x5.toNat, .int .u8 x6.toNat, .int .u8 x7.toNat] 45))
  have HR : Hid (Rd (w.alloc (.cells #[.int .u8 x0.toNat, .int .u8 x1.toNat, .int .u8 x2.toNat, .int .u8 x3.toNat, .int .u8 x4.toNat, .int .u8 x5.toNat, .int .u8 x6.toNat, .int .u8 x7.toNat] 45)) (.slice (some ⟨w.heap.size, 0, none⟩) 8 8) (bytesV l)) := Lib.hid (by rw [Hl.out]; exact Rd_blk (heap_alloc_eq w _) 8 rfl (by show 8 ≤ maxLen; unfold maxLen; omega))
  go_wp2_with fail
  refine (New_cur _ l true _ HR.out (by rw [Hl.out]; show 8 ≤ 140737488355328; omega)).mono ?_
  rintro e w1 ⟨x, rfl, hx, hcx, hch⟩
  have H1 := Lib.hid (H0.out.new hch hcx hx)
  clear hx hcx hch
  go_wp2_with fail
  refine (Number_cur x _ m _ H1.out.cur).mono ?_
  rintro e w2 ⟨rfl, hcx, hch⟩
  rw [HS.out] at hcx
  rw [HV.out]
  have H2 := Lib.hid (H1.out.call hcx hch)
  clear hcx hch
  go_wp2_with fail
  refine (Err_cur x _ _ H2.out.env H2.out.cur).mono ?_
  rintro e w3 ⟨rfl, hch⟩
  have H3 := Lib.hid (H2.out.pure hch)
  clear hch
  go_wp2_with fail
  refine (At_cur x _ _ H3.out.cur).mono ?_
  rintro e w4 ⟨rfl, rfl⟩
  go_wp2_with fail
  refine (known_cur _ H3.out.env).mono ?_
  rintro e w5 ⟨rfl, hch⟩
  have H5 := Lib.hid (H3.out.pure hch)
  clear hch
  go_wp2
  go_ret
  exact ⟨rfl, H5.out.chg⟩
-- sizes
theorem num_1 (x0 x1 x2 x3 x4 x5 x6 x7 : UInt8) : numberV ⟨[x0, x1, x2, x3, x4, x5, x6, x7], 0, false, false⟩ 1 = leNum [x0] ∧ numberV ⟨[x0, 0, 0, 0, 0, 0, 0, 0], 0, true, false⟩ 1 = leNum [x0] ∧ leNum [x0] < 256 ^ 1 ∧
    numberS ⟨[x0, x1, x2, x3, x4, x5, x6, x7], 0, false, false⟩ 1 = ⟨[x0, x1, x2, x3, x4, x5, x6, x7], 1, false, false⟩ ∧ numberS ⟨[x0, 0, 0, 0, 0, 0, 0, 0], 0, true, false⟩ 1 = ⟨[x0, 0, 0, 0, 0, 0, 0, 0], 1, true, false⟩ := by
  refine ⟨rfl, ?_, leNum_lt _, rfl, rfl⟩
  show beNum [x0] = _
  rw [← leNum_reverse]; rfl
set_option maxHeartbeats 1000000 in
theorem CursorNumbers_1 (x0 x1 x2 x3 x4 x5 x6 x7 : UInt8) (w : World) (hg : Env w) :
    Calls Tryd.prog 9 #[.agg #[.int .u8 x0.toNat, .int .u8 x1.toNat, .int .u8 x2.toNat, .int .u8 x3.toNat, .int .u8 x4.toNat, .int .u8 x5.toNat, .int .u8 x6.toNat, .int .u8 x7.toNat], .int .i64 1] w fun e w' => e = .returned (.bool true) ∧ Chg [] w w' := by
  obtain ⟨hn1, hn2, hlt, hs1, hs2⟩ := num_1 x0 x1 x2 x3 x4 x5 x6 x7
  generalize leNum [x0] = N at hn1 hn2 hlt
  obtain ⟨l, hl⟩ : ∃ l, l = [x0, x1, x2, x3, x4, x5, x6, x7] := ⟨_, rfl⟩
  obtain ⟨b, hb⟩ : ∃ b : List UInt8, b = [x0, 0, 0, 0, 0, 0, 0, 0] := ⟨_, rfl⟩
  rw [← hl] at hn1 hs1
  rw [← hb] at hn2 hs2
  have HL1 : Hid (l.length ≤ 140737488355328) := Lib.hid (by rw [hl]; show 8 ≤ 140737488355328; omega)
  have HL2 : Hid (b.length ≤ 140737488355328) := Lib.hid (by rw [hb]; show 8 ≤ 140737488355328; omega)
  have hd : decide ((N : Int) < 256) = true := by simp; omega
  have HR1 : Hid (Rd ((w.alloc (.cells #[.int .u8 x0.toNat, .int .u8 x1.toNat, .int .u8 x2.toNat, .int .u8 x3.toNat, .int .u8 x4.toNat, .int .u8 x5.toNat, .int .u8 x6.toNat, .int .u8 x7.toNat] 45)).alloc (.cells #[.int .u8 x0.toNat, .int .u8 0, .int .u8 0, .int .u8 0, .int .u8 0, .int .u8 0, .int .u8 0, .int .u8 0] 45)) (.slice (some ⟨w.heap.size, 0, none⟩) 8 8) (bytesV l)) := Lib.hid (by rw [hl]; exact Rd_blk2 (xs := bytesV [x0, x1, x2, x3, x4, x5, x6, x7]) ((heap_alloc_lt (by simp) _).trans (heap_alloc_eq w _)) rfl 8 rfl (by show 8 ≤ maxLen; unfold maxLen; omega))
  have HR2 : Hid (Rd ((w.alloc (.cells #[.int .u8 x0.toNat, .int .u8 x1.toNat, .int .u8 x2.toNat, .int .u8 x3.toNat, .int .u8 x4.toNat, .int .u8 x5.toNat, .int .u8 x6.toNat, .int .u8 x7.toNat] 45)).alloc (.cells #[.int .u8 x0.toNat, .int .u8 0, .int .u8 0, .int .u8 0, .int .u8 0, .int .u8 0, .int .u8 0, .int .u8 0] 45)) (.slice (some ⟨w.heap.size + 1, 0, none⟩) 8 8) (bytesV b)) := Lib.hid (by rw [hb]; exact Rd_blk2 (xs := bytesV [x0, 0, 0, 0, 0, 0, 0, 0]) (by rw [show w.heap.size + 1 = (w.alloc (.cells #[.int .u8 x0.toNat, .int .u8 x1.toNat, .int .u8 x2.toNat, .int .u8 x3.toNat, .int .u8 x4.toNat, .int .u8 x5.toNat, .int .u8 x6.toNat, .int .u8 x7.toNat] 45)).heap.size from by simp]; exact heap_alloc_eq (w.alloc _) _) rfl 8 rfl (by show 8 ≤ maxLen; unfold maxLen; omega))
  have H0 := Lib.hid (((Curs.start hg).alloc (.cells #[.int .u8 x0.toNat, .int .u8 x1.toNat, .int .u8 x2.toNat, .int .u8 x3.toNat, .int .u8 x4.toNat, .int .u8 x5.toNat, .int .u8 x6.toNat, .int .u8 x7.toNat] 45)).alloc (.cells #[.int .u8 x0.toNat, .int .u8 0, .int .u8 0, .int .u8 0, .int .u8 0, .int .u8 0, .int .u8 0, .int .u8 0] 45))
  have Hn1 := Lib.hid hn1
  have Hn2 := Lib.hid hn2
  have Hs1 := Lib.hid hs1
  have Hs2 := Lib.hid hs2
  have Hlt := Lib.hid hlt
  clear hn1 hn2 hs1 hs2 hlt
  clear hl hb hg
  go_enter Tryd.func9, Tryd.ntmps9
  go_wp2_with fail
  refine wp_loop_rounds 2 ?_
  repeat (rw [rounds_succ]; go_wp2_with fail)
  obtain ⟨W2, hW2⟩ : ∃ W2, W2 = ((w.alloc (.cells #[.int .u8 x0.toNat, .int .u8 x1.toNat, .int .u8 x2.toNat, .int .u8 x3.toNat, .int .u8 x4.toNat, .int .u8 x5.toNat, .int .u8 x6.toNat, .int .u8 x7.toNat] 45)).alloc (.cells #[.int .u8 x0.toNat, .int .u8 0, .int .u8 0, .int .u8 0, .int .u8 0, .int .u8 0, .int .u8 0, .int .u8 0] 45)) := ⟨_, rfl⟩
  rw [← hW2] at HR1 HR2 H0 ⊢
  clear hW2
  have HD := Lib.hid (H0.out.dr (Dr.refl _).drew)
  have HRD2 : Hid (Rd W2.drew (.slice (some ⟨w.heap.size + 1, 0, none⟩) 8 8) (bytesV b)) := Lib.hid (HR2.out)
  have HRD1 : Hid (Rd W2.drew (.slice (some ⟨w.heap.size, 0, none⟩) 8 8) (bytesV l)) := Lib.hid (HR1.out)
  refine wp_region_noPanic ?_
  refine wp_region_held_drew (S := fun _ => True) (by kernel_rfl) trivial (fun hHeld => ?_)
  refine take_read (i := 0) (v := ?_) (by simp only [List.getElem?_toArray, List.getElem?_cons_zero]; rfl) (by kernel_rfl) (by kernel_rfl) (by kernel_rfl) (fun _ _ _ h => h) hHeld ?_ ?_
  rotate_left
  · intro w hSw
    go_simp
    try with_reducible rfl
  try simp only [Act.put, List.setIfInBounds_toArray, List.set_cons_zero, List.set_cons_succ]
  refine take_read (i := 2) (v := ?_) (by simp only [List.getElem?_toArray, List.getElem?_cons_succ, List.getElem?_cons_zero]; rfl) (by kernel_rfl) (by kernel_rfl) (by kernel_rfl) (fun _ _ _ h => h) hHeld ?_ ?_
  rotate_left
  · intro w hSw
    go_simp
    try with_reducible rfl
  try simp only [Act.put, List.setIfInBounds_toArray, List.set_cons_zero, List.set_cons_succ]
  refine wpAnyH_ready (rs := [1]) (by kernel_rfl) (by simp) ?_
  refine AllReadyH.cons rfl (fun K hK => ?_) AllReadyH.nil
  go_simp
  refine (New_cur _ l false _ HRD1.out HL1.out).mono ?_
  rintro e w3 ⟨x, rfl, hx, hcx, hch⟩
  have H3 := Lib.hid (HD.out.new hch hcx hx)
  have HR3 := Lib.hid (HRD2.out.frame hch (fun _ _ hm => by cases hm))
  clear hx hcx hch
  refine hK.out _ _ trivial (fun _ => ?_)
  clear hK hHeld K
  have hHeld := trivial
  try (unfold Act.put; simp only [List.setIfInBounds_toArray, List.set_cons_zero, List.set_cons_succ])
  refine wpAnyH_ready (rs := [3]) (by kernel_rfl) (by simp) ?_
  refine AllReadyH.cons rfl (fun K hK => ?_) AllReadyH.nil
  go_simp
  refine (New_cur _ b true _ HR3.out HL2.out).mono ?_
  rintro e w4 ⟨y, rfl, hx, hcx, hch⟩
  have H4 := Lib.hid (H3.out.new hch hcx hx)
  clear hx hcx hch
  refine hK.out _ _ trivial (fun _ => ?_)
  clear hK hHeld K
  have hHeld := trivial
  try (unfold Act.put; simp only [List.setIfInBounds_toArray, List.set_cons_zero, List.set_cons_succ])
  refine take_read (i := 4) (v := ?_) (by simp only [List.getElem?_toArray, List.getElem?_cons_succ, List.getElem?_cons_zero]; rfl) (by kernel_rfl) (by kernel_rfl) (by kernel_rfl) (fun _ _ _ h => h) hHeld ?_ ?_
  rotate_left
  · intro w hSw
    go_simp
    try with_reducible rfl
  try simp only [Act.put, List.setIfInBounds_toArray, List.set_cons_zero, List.set_cons_succ]
  refine take_read (i := 5) (v := ?_) (by simp only [List.getElem?_toArray, List.getElem?_cons_succ, List.getElem?_cons_zero]; rfl) (by kernel_rfl) (by kernel_rfl) (by kernel_rfl) (fun _ _ _ h => h) hHeld ?_ ?_
  rotate_left
  · intro w hSw
    go_simp
    try with_reducible rfl
  try simp only [Act.put, List.setIfInBounds_toArray, List.set_cons_zero, List.set_cons_succ]
  refine wpAnyH_done (by kernel_rfl) ?_ _
  refine NoPanic.normal ?_
  clear hHeld
  have H4 := Lib.hid (H4.out.swap)
  go_wp2_with fail
  refine (Number_cur x _ _ _ H4.out.cur).mono ?_
  rintro e w5 ⟨rfl, hcx, hch⟩
  rw [Hs1.out] at hcx
  rw [Hn1.out]
  have H5 := Lib.hid ((H4.out.call hcx hch).swap)
  clear hcx hch
  go_wp2_with fail
  refine (Number_cur y _ _ _ H5.out.cur).mono ?_
  rintro e w6 ⟨rfl, hcx, hch⟩
  rw [Hs2.out] at hcx
  rw [Hn2.out]
  have H6 := Lib.hid ((H5.out.call hcx hch).swap)
  clear hcx hch
  go_wp2_with fail
  refine (At_cur x _ _ H6.out.cur).mono ?_
  rintro e w7 ⟨rfl, rfl⟩
  have H6 := Lib.hid (H6.out.swap)
  go_wp2_with fail
  refine (Err_cur y _ _ H6.out.env H6.out.cur).mono ?_
  rintro e w8 ⟨rfl, hch⟩
  have H8 := Lib.hid (H6.out.pure hch)
  clear hch
  go_wp2_with fail
  refine (known_cur _ H8.out.env).mono ?_
  rintro e w9 ⟨rfl, hch⟩
  have H9 := Lib.hid (H8.out.pure hch)
  clear hch
  go_wp2
  go_ret
  exact ⟨rfl, H9.out.chg⟩
theorem num_2 (x0 x1 x2 x3 x4 x5 x6 x7 : UInt8) : numberV ⟨[x0, x1, x2, x3, x4, x5, x6, x7], 0, false, false⟩ 2 = leNum [x0, x1] ∧ numberV ⟨[x1, x0, 0, 0, 0, 0, 0, 0], 0, true, false⟩ 2 = leNum [x0, x1] ∧ leNum [x0, x1] < 256 ^ 2 ∧
    numberS ⟨[x0, x1, x2, x3, x4, x5, x6, x7], 0, false, false⟩ 2 = ⟨[x0, x1, x2, x3, x4, x5, x6, x7], 2, false, false⟩ ∧ numberS ⟨[x1, x0, 0, 0, 0, 0, 0, 0], 0, true, false⟩ 2 = ⟨[x1, x0, 0, 0, 0, 0, 0, 0], 2, true, false⟩ := by
  refine ⟨rfl, ?_, leNum_lt _, rfl, rfl⟩
  show beNum [x1, x0] = _
  rw [← leNum_reverse]; rfl
set_option maxHeartbeats 1000000 in
theorem CursorNumbers_2 (x0 x1 x2 x3 x4 x5 x6 x7 : UInt8) (w : World) (hg : Env w) :
    Calls Tryd.prog 9 #[.agg #[.int .u8 x0.toNat, .int .u8 x1.toNat, .int .u8 x2.toNat, .int .u8 x3.toNat, .int .u8 x4.toNat, .int .u8 x5.toNat, .int .u8 x6.toNat, .int .u8 x7.toNat], .int .i64 2] w fun e w' => e = .returned (.bool true) ∧ Chg [] w w' := by
  obtain ⟨hn1, hn2, hlt, hs1, hs2⟩ := num_2 x0 x1 x2 x3 x4 x5 x6 x7
  generalize leNum [x0, x1] = N at hn1 hn2 hlt
  obtain ⟨l, hl⟩ : ∃ l, l = [x0, x1, x2, x3, x4, x5, x6, x7] := ⟨_, rfl⟩
  obtain ⟨b, hb⟩ : ∃ b : List UInt8, b = [x1, x0, 0, 0, 0, 0, 0, 0] := ⟨_, rfl⟩
  rw [← hl] at hn1 hs1
  rw [← hb] at hn2 hs2
  have HL1 : Hid (l.length ≤ 140737488355328) := Lib.hid (by rw [hl]; show 8 ≤ 140737488355328; omega)
  have HL2 : Hid (b.length ≤ 140737488355328) := Lib.hid (by rw [hb]; show 8 ≤ 140737488355328; omega)
  have hd : decide ((N : Int) < 65536) = true := by simp; omega
  have HR1 : Hid (Rd ((w.alloc (.cells #[.int .u8 x0.toNat, .int .u8 x1.toNat, .int .u8 x2.toNat, .int .u8 x3.toNat, .int .u8 x4.toNat, .int .u8 x5.toNat, .int .u8 x6.toNat, .int .u8 x7.toNat] 45)).alloc (.cells #[.int .u8 x1.toNat, .int .u8 x0.toNat, .int .u8 0, .int .u8 0, .int .u8 0, .int .u8 0, .int .u8 0, .int .u8 0] 45)) (.slice (some ⟨w.heap.size, 0, none⟩) 8 8) (bytesV l)) := Lib.hid (by rw [hl]; exact Rd_blk2 (xs := bytesV [x0, x1, x2, x3, x4, x5, x6, x7]) ((heap_alloc_lt (by simp) _).trans (heap_alloc_eq w _)) rfl 8 rfl (by show 8 ≤ maxLen; unfold maxLen; omega))
  have HR2 : Hid (Rd ((w.alloc (.cells #[.int .u8 x0.toNat, .int .u8 x1.toNat, .int .u8 x2.toNat, .int .u8 x3.toNat, .int .u8 x4.toNat, .int .u8 x5.toNat, .int .u8 x6.toNat, .int .u8 x7.toNat] 45)).alloc (.cells #[.int .u8 x1.toNat, .int .u8 x0.toNat, .int .u8 0, .int .u8 0, .int .u8 0, .int .u8 0, .int .u8 0, .int .u8 0] 45)) (.slice (some ⟨w.heap.size + 1, 0, none⟩) 8 8) (bytesV b)) := Lib.hid (by rw [hb]; exact Rd_blk2 (xs := bytesV [x1, x0, 0, 0, 0, 0, 0, 0]) (by rw [show w.heap.size + 1 = (w.alloc (.cells #[.int .u8 x0.toNat, .int .u8 x1.toNat, .int .u8 x2.toNat, .int .u8 x3.toNat, .int .u8 x4.toNat, .int .u8 x5.toNat, .int .u8 x6.toNat, .int .u8 x7.toNat] 45)).heap.size from by simp]; exact heap_alloc_eq (w.alloc _) _) rfl 8 rfl (by show 8 ≤ maxLen; unfold maxLen; omega))
  have H0 := Lib.hid (((Curs.start hg).alloc (.cells #[.int .u8 x0.toNat, .int .u8 x1.toNat, .int .u8 x2.toNat, .int .u8 x3.toNat, .int .u8 x4.toNat, .int .u8 x5.toNat, .int .u8 x6.toNat, .int .u8 x7.toNat] 45)).alloc (.cells #[.int .u8 x1.toNat, .int .u8 x0.toNat, .int .u8 0, .int .u8 0, .int .u8 0, .int .u8 0, .int .u8 0, .int .u8 0] 45))
  have Hn1 := Lib.hid hn1
  have Hn2 := Lib.hid hn2
  have Hs1 := Lib.hid hs1
  have Hs2 := Lib.hid hs2
  have Hlt := Lib.hid hlt
  clear hn1 hn2 hs1 hs2 hlt
  clear hl hb hg
  go_enter Tryd.func9, Tryd.ntmps9
  go_wp2_with fail
  refine wp_loop_rounds 3 ?_
  repeat (rw [rounds_succ]; go_wp2_with fail)
  obtain ⟨W2, hW2⟩ : ∃ W2, W2 = ((w.alloc (.cells #[.int .u8 x0.toNat, .int .u8 x1.toNat, .int .u8 x2.toNat, .int .u8 x3.toNat, .int .u8 x4.toNat, .int .u8 x5.toNat, .int .u8 x6.toNat, .int .u8 x7.toNat] 45)).alloc (.cells #[.int .u8 x1.toNat, .int .u8 x0.toNat, .int .u8 0, .int .u8 0, .int .u8 0, .int .u8 0, .int .u8 0, .int .u8 0] 45)) := ⟨_, rfl⟩
  rw [← hW2] at HR1 HR2 H0 ⊢
  clear hW2
  have HD := Lib.hid (H0.out.dr (Dr.refl _).drew)
  have HRD2 : Hid (Rd W2.drew (.slice (some ⟨w.heap.size + 1, 0, none⟩) 8 8) (bytesV b)) := Lib.hid (HR2.out)
  have HRD1 : Hid (Rd W2.drew (.slice (some ⟨w.heap.size, 0, none⟩) 8 8) (bytesV l)) := Lib.hid (HR1.out)
  refine wp_region_noPanic ?_
  refine wp_region_held_drew (S := fun _ => True) (by kernel_rfl) trivial (fun hHeld => ?_)
  refine take_read (i := 0) (v := ?_) (by simp only [List.getElem?_toArray, List.getElem?_cons_zero]; rfl) (by kernel_rfl) (by kernel_rfl) (by kernel_rfl) (fun _ _ _ h => h) hHeld ?_ ?_
  rotate_left
  · intro w hSw
    go_simp
    try with_reducible rfl
  try simp only [Act.put, List.setIfInBounds_toArray, List.set_cons_zero, List.set_cons_succ]
  refine take_read (i := 2) (v := ?_) (by simp only [List.getElem?_toArray, List.getElem?_cons_succ, List.getElem?_cons_zero]; rfl) (by kernel_rfl) (by kernel_rfl) (by kernel_rfl) (fun _ _ _ h => h) hHeld ?_ ?_
  rotate_left
  · intro w hSw
    go_simp
    try with_reducible rfl
  try simp only [Act.put, List.setIfInBounds_toArray, List.set_cons_zero, List.set_cons_succ]
  refine wpAnyH_ready (rs := [1]) (by kernel_rfl) (by simp) ?_
  refine AllReadyH.cons rfl (fun K hK => ?_) AllReadyH.nil
  go_simp
  refine (New_cur _ l false _ HRD1.out HL1.out).mono ?_
  rintro e w3 ⟨x, rfl, hx, hcx, hch⟩
  have H3 := Lib.hid (HD.out.new hch hcx hx)
  have HR3 := Lib.hid (HRD2.out.frame hch (fun _ _ hm => by cases hm))
  clear hx hcx hch
  refine hK.out _ _ trivial (fun _ => ?_)
  clear hK hHeld K
  have hHeld := trivial
  try (unfold Act.put; simp only [List.setIfInBounds_toArray, List.set_cons_zero, List.set_cons_succ])
  refine wpAnyH_ready (rs := [3]) (by kernel_rfl) (by simp) ?_
  refine AllReadyH.cons rfl (fun K hK => ?_) AllReadyH.nil
  go_simp
  refine (New_cur _ b true _ HR3.out HL2.out).mono ?_
  rintro e w4 ⟨y, rfl, hx, hcx, hch⟩
  have H4 := Lib.hid (H3.out.new hch hcx hx)
  clear hx hcx hch
  refine hK.out _ _ trivial (fun _ => ?_)
  clear hK hHeld K
  have hHeld := trivial
  try (unfold Act.put; simp only [List.setIfInBounds_toArray, List.set_cons_zero, List.set_cons_succ])
  refine take_read (i := 4) (v := ?_) (by simp only [List.getElem?_toArray, List.getElem?_cons_succ, List.getElem?_cons_zero]; rfl) (by kernel_rfl) (by kernel_rfl) (by kernel_rfl) (fun _ _ _ h => h) hHeld ?_ ?_
  rotate_left
  · intro w hSw
    go_simp
    try with_reducible rfl
  try simp only [Act.put, List.setIfInBounds_toArray, List.set_cons_zero, List.set_cons_succ]
  refine take_read (i := 5) (v := ?_) (by simp only [List.getElem?_toArray, List.getElem?_cons_succ, List.getElem?_cons_zero]; rfl) (by kernel_rfl) (by kernel_rfl) (by kernel_rfl) (fun _ _ _ h => h) hHeld ?_ ?_
  rotate_left
  · intro w hSw
    go_simp
    try with_reducible rfl
  try simp only [Act.put, List.setIfInBounds_toArray, List.set_cons_zero, List.set_cons_succ]
  refine wpAnyH_done (by kernel_rfl) ?_ _
  refine NoPanic.normal ?_
  clear hHeld
  have H4 := Lib.hid (H4.out.swap)
  go_wp2_with fail
  refine (Number_cur x _ _ _ H4.out.cur).mono ?_
  rintro e w5 ⟨rfl, hcx, hch⟩
  rw [Hs1.out] at hcx
  rw [Hn1.out]
  have H5 := Lib.hid ((H4.out.call hcx hch).swap)
  clear hcx hch
  go_wp2_with fail
  refine (Number_cur y _ _ _ H5.out.cur).mono ?_
  rintro e w6 ⟨rfl, hcx, hch⟩
  rw [Hs2.out] at hcx
  rw [Hn2.out]
  have H6 := Lib.hid ((H5.out.call hcx hch).swap)
  clear hcx hch
  go_wp2_with fail
  refine (At_cur x _ _ H6.out.cur).mono ?_
  rintro e w7 ⟨rfl, rfl⟩
  have H6 := Lib.hid (H6.out.swap)
  go_wp2_with fail
  refine (Err_cur y _ _ H6.out.env H6.out.cur).mono ?_
  rintro e w8 ⟨rfl, hch⟩
  have H8 := Lib.hid (H6.out.pure hch)
  clear hch
  go_wp2_with fail
  refine (known_cur _ H8.out.env).mono ?_
  rintro e w9 ⟨rfl, hch⟩
  have H9 := Lib.hid (H8.out.pure hch)
  clear hch
  go_wp2
  go_ret
  exact ⟨rfl, H9.out.chg⟩
theorem num_4 (x0 x1 x2 x3 x4 x5 x6 x7 : UInt8) : numberV ⟨[x0, x1, x2, x3, x4, x5, x6, x7], 0, false, false⟩ 4 = leNum [x0, x1, x2, x3] ∧ numberV ⟨[x3, x2, x1, x0, 0, 0, 0, 0], 0, true, false⟩ 4 = leNum [x0, x1, x2, x3] ∧ leNum [x0, x1, x2, x3] < 256 ^ 4 ∧
    numberS ⟨[x0, x1, x2, x3, x4, x5, x6, x7], 0, false, false⟩ 4 = ⟨[x0, x1, x2, x3, x4, x5, x6, x7], 4, false, false⟩ ∧ numberS ⟨[x3, x2, x1, x0, 0, 0, 0, 0], 0, true, false⟩ 4 = ⟨[x3, x2, x1, x0, 0, 0, 0, 0], 4, true, false⟩ := by
  refine ⟨rfl, ?_, leNum_lt _, rfl, rfl⟩
  show beNum [x3, x2, x1, x0] = _
  rw [← leNum_reverse]; rfl
set_option maxHeartbeats 1000000 in
theorem CursorNumbers_4 (x0 x1 x2 x3 x4 x5 x6 x7 : UInt8) (w : World) (hg : Env w) :
    Calls Tryd.prog 9 #[.agg #[.int .u8 x0.toNat, .int .u8 x1.toNat, .int .u8 x2.toNat, .int .u8 x3.toNat, .int .u8 x4.toNat, .int .u8 x5.toNat, .int .u8 x6.toNat, .int .u8 x7.toNat], .int .i64 4] w fun e w' => e = .returned (.bool true) ∧ Chg [] w w' := by
  obtain ⟨hn1, hn2, hlt, hs1, hs2⟩ := num_4 x0 x1 x2 x3 x4 x5 x6 x7
  generalize leNum [x0, x1, x2, x3] = N at hn1 hn2 hlt
  obtain ⟨l, hl⟩ : ∃ l, l = [x0, x1, x2, x3, x4, x5, x6, x7] := ⟨_, rfl⟩
  obtain ⟨b, hb⟩ : ∃ b : List UInt8, b = [x3, x2, x1, x0, 0, 0, 0, 0] := ⟨_, rfl⟩
  rw [← hl] at hn1 hs1
  rw [← hb] at hn2 hs2
  have HL1 : Hid (l.length ≤ 140737488355328) := Lib.hid (by rw [hl]; show 8 ≤ 140737488355328; omega)
  have HL2 : Hid (b.length ≤ 140737488355328) := Lib.hid (by rw [hb]; show 8 ≤ 140737488355328; omega)
  have hd : decide ((N : Int) < 4294967296) = true := by simp; omega
  have HR1 : Hid (Rd ((w.alloc (.cells #[.int .u8 x0.toNat, .int .u8 x1.toNat, .int .u8 x2.toNat, .int .u8 x3.toNat, .int .u8 x4.toNat, .int .u8 x5.toNat, .int .u8 x6.toNat, .int .u8 x7.toNat] 45)).alloc (.cells #[.int .u8 x3.toNat, .int .u8 x2.toNat, .int .u8 x1.toNat, .int .u8 x0.toNat, .int .u8 0, .int .u8 0, .int .u8 0, .int .u8 0] 45)) (.slice (some ⟨w.heap.size, 0, none⟩) 8 8) (bytesV l)) := Lib.hid (by rw [hl]; exact Rd_blk2 (xs := bytesV [x0, x1, x2, x3, x4, x5, x6, x7]) ((heap_alloc_lt (by simp) _).trans (heap_alloc_eq w _)) rfl 8 rfl (by show 8 ≤ maxLen; unfold maxLen; omega))
  have HR2 : Hid (Rd ((w.alloc (.cells #[.int .u8 x0.toNat, .int .u8 x1.toNat, .int .u8 x2.toNat, .int .u8 x3.toNat, .int .u8 x4.toNat, .int .u8 x5.toNat, .int .u8 x6.toNat, .int .u8 x7.toNat] 45)).alloc (.cells #[.int .u8 x3.toNat, .int .u8 x2.toNat, .int .u8 x1.toNat, .int .u8 x0.toNat, .int .u8 0, .int .u8 0, .int .u8 0, .int .u8 0] 45)) (.slice (some ⟨w.heap.size + 1, 0, none⟩) 8 8) (bytesV b)) := Lib.hid (by rw [hb]; exact Rd_blk2 (xs := bytesV [x3, x2, x1, x0, 0, 0, 0, 0]) (by rw [show w.heap.size + 1 = (w.alloc (.cells #[.int .u8 x0.toNat, .int .u8 x1.toNat, .int .u8 x2.toNat, .int .u8 x3.toNat, .int .u8 x4.toNat, .int .u8 x5.toNat, .int .u8 x6.toNat, .int .u8 x7.toNat] 45)).heap.size from by simp]; exact heap_alloc_eq (w.alloc _) _) rfl 8 rfl (by show 8 ≤ maxLen; unfold maxLen; omega))
  have H0 := Lib.hid (((Curs.start hg).alloc (.cells #[.int .u8 x0.toNat, .int .u8 x1.toNat, .int .u8 x2.toNat, .int .u8 x3.toNat, .int .u8 x4.toNat, .int .u8 x5.toNat, .int .u8 x6.toNat, .int .u8 x7.toNat] 45)).alloc (.cells #[.int .u8 x3.toNat, .int .u8 x2.toNat, .int .u8 x1.toNat, .int .u8 x0.toNat, .int .u8 0, .int .u8 0, .int .u8 0, .int .u8 0] 45))
  have Hn1 := Lib.hid hn1
  have Hn2 := Lib.hid hn2
  have Hs1 := Lib.hid hs1
  have Hs2 := Lib.hid hs2
  have Hlt := Lib.hid hlt
  clear hn1 hn2 hs1 hs2 hlt
  clear hl hb hg
  go_enter Tryd.func9, Tryd.ntmps9
  go_wp2_with fail
  refine wp_loop_rounds 5 ?_
  repeat (rw [rounds_succ]; go_wp2_with fail)
  obtain ⟨W2, hW2⟩ : ∃ W2, W2 = ((w.alloc (.cells #[.int .u8 x0.toNat, .int .u8 x1.toNat, .int .u8 x2.toNat, .int .u8 x3.toNat, .int .u8 x4.toNat, .int .u8 x5.toNat, .int .u8 x6.toNat, .int .u8 x7.toNat] 45)).alloc (.cells #[.int .u8 x3.toNat, .int .u8 x2.toNat, .int .u8 x1.toNat, .int .u8 x0.toNat, .int .u8 0, .int .u8 0, .int .u8 0, .int .u8 0] 45)) := ⟨_, rfl⟩
  rw [← hW2] at HR1 HR2 H0 ⊢
  clear hW2
  have HD := Lib.hid (H0.out.dr (Dr.refl _).drew)
  have HRD2 : Hid (Rd W2.drew (.slice (some ⟨w.heap.size + 1, 0, none⟩) 8 8) (bytesV b)) := Lib.hid (HR2.out)
  have HRD1 : Hid (Rd W2.drew (.slice (some ⟨w.heap.size, 0, none⟩) 8 8) (bytesV l)) := Lib.hid (HR1.out)
  refine wp_region_noPanic ?_
  refine wp_region_held_drew (S := fun _ => True) (by kernel_rfl) trivial (fun hHeld => ?_)
  refine take_read (i := 0) (v := ?_) (by simp only [List.getElem?_toArray, List.getElem?_cons_zero]; rfl) (by kernel_rfl) (by kernel_rfl) (by kernel_rfl) (fun _ _ _ h => h) hHeld ?_ ?_
  rotate_left
  · intro w hSw
    go_simp
    try with_reducible rfl
  try simp only [Act.put, List.setIfInBounds_toArray, List.set_cons_zero, List.set_cons_succ]
  refine take_read (i := 2) (v := ?_) (by simp only [List.getElem?_toArray, List.getElem?_cons_succ, List.getElem?_cons_zero]; rfl) (by kernel_rfl) (by kernel_rfl) (by kernel_rfl) (fun _ _ _ h => h) hHeld ?_ ?_
  rotate_left
  · intro w hSw
    go_simp
    try with_reducible rfl
  try simp only [Act.put, List.setIfInBounds_toArray, List.set_cons_zero, List.set_cons_succ]
  refine wpAnyH_ready (rs := [1]) (by kernel_rfl) (by simp) ?_
  refine AllReadyH.cons rfl (fun K hK => ?_) AllReadyH.nil
  go_simp
  refine (New_cur _ l false _ HRD1.out HL1.out).mono ?_
  rintro e w3 ⟨x, rfl, hx, hcx, hch⟩
  have H3 := Lib.hid (HD.out.new hch hcx hx)
  have HR3 := Lib.hid (HRD2.out.frame hch (fun _ _ hm => by cases hm))
  clear hx hcx hch
  refine hK.out _ _ trivial (fun _ => ?_)
  clear hK hHeld K
  have hHeld := trivial
  try (unfold Act.put; simp only [List.setIfInBounds_toArray, List.set_cons_zero, List.set_cons_succ])
  refine wpAnyH_ready (rs := [3]) (by kernel_rfl) (by simp) ?_
  refine AllReadyH.cons rfl (fun K hK => ?_) AllReadyH.nil
  go_simp
  refine (New_cur _ b true _ HR3.out HL2.out).mono ?_
  rintro e w4 ⟨y, rfl, hx, hcx, hch⟩
  have H4 := Lib.hid (H3.out.new hch hcx hx)
  clear hx hcx hch
  refine hK.out _ _ trivial (fun _ => ?_)
  clear hK hHeld K
  have hHeld := trivial
  try (unfold Act.put; simp only [List.setIfInBounds_toArray, List.set_cons_zero, List.set_cons_succ])
  refine take_read (i := 4) (v := ?_) (by simp only [List.getElem?_toArray, List.getElem?_cons_succ, List.getElem?_cons_zero]; rfl) (by kernel_rfl) (by kernel_rfl) (by kernel_rfl) (fun _ _ _ h => h) hHeld ?_ ?_
  rotate_left
  · intro w hSw
    go_simp
    try with_reducible rfl
  try simp only [Act.put, List.setIfInBounds_toArray, List.set_cons_zero, List.set_cons_succ]
  refine take_read (i := 5) (v := ?_) (by simp only [List.getElem?_toArray, List.getElem?_cons_succ, List.getElem?_cons_zero]; rfl) (by kernel_rfl) (by kernel_rfl) (by kernel_rfl) (fun _ _ _ h => h) hHeld ?_ ?_
  rotate_left
  · intro w hSw
    go_simp
    try with_reducible rfl
  try simp only [Act.put, List.setIfInBounds_toArray, List.set_cons_zero, List.set_cons_succ]
  refine wpAnyH_done (by kernel_rfl) ?_ _
  refine NoPanic.normal ?_
  clear hHeld
  have H4 := Lib.hid (H4.out.swap)
  go_wp2_with fail
  refine (Number_cur x _ _ _ H4.out.cur).mono ?_
  rintro e w5 ⟨rfl, hcx, hch⟩
  rw [Hs1.out] at hcx
  rw [Hn1.out]
  have H5 := Lib.hid ((H4.out.call hcx hch).swap)
  clear hcx hch
  go_wp2_with fail
  refine (Number_cur y _ _ _ H5.out.cur).mono ?_
  rintro e w6 ⟨rfl, hcx, hch⟩
  rw [Hs2.out] at hcx
  rw [Hn2.out]
  have H6 := Lib.hid ((H5.out.call hcx hch).swap)
  clear hcx hch
  go_wp2_with fail
  refine (At_cur x _ _ H6.out.cur).mono ?_
  rintro e w7 ⟨rfl, rfl⟩
  have H6 := Lib.hid (H6.out.swap)
  go_wp2_with fail
  refine (Err_cur y _ _ H6.out.env H6.out.cur).mono ?_
  rintro e w8 ⟨rfl, hch⟩
  have H8 := Lib.hid (H6.out.pure hch)
  clear hch
  go_wp2_with fail
  refine (known_cur _ H8.out.env).mono ?_
  rintro e w9 ⟨rfl, hch⟩
  have H9 := Lib.hid (H8.out.pure hch)
  clear hch
  go_wp2
  go_ret
  exact ⟨rfl, H9.out.chg⟩
theorem num_8 (x0 x1 x2 x3 x4 x5 x6 x7 : UInt8) : numberV ⟨[x0, x1, x2, x3, x4, x5, x6, x7], 0, false, false⟩ 8 = leNum [x0, x1, x2, x3, x4, x5, x6, x7] ∧ numberV ⟨[x7, x6, x5, x4, x3, x2, x1, x0], 0, true, false⟩ 8 = leNum [x0, x1, x2, x3, x4, x5, x6, x7] ∧ leNum [x0, x1, x2, x3, x4, x5, x6, x7] < 256 ^ 8 ∧
    numberS ⟨[x0, x1, x2, x3, x4, x5, x6, x7], 0, false, false⟩ 8 = ⟨[x0, x1, x2, x3, x4, x5, x6, x7], 8, false, false⟩ ∧ numberS ⟨[x7, x6, x5, x4, x3, x2, x1, x0], 0, true, false⟩ 8 = ⟨[x7, x6, x5, x4, x3, x2, x1, x0], 8, true, false⟩ := by
  refine ⟨rfl, ?_, leNum_lt _, rfl, rfl⟩
  show beNum [x7, x6, x5, x4, x3, x2, x1, x0] = _
  rw [← leNum_reverse]; rfl
set_option maxHeartbeats 1000000 in
theorem CursorNumbers_8 (x0 x1 x2 x3 x4 x5 x6 x7 : UInt8) (w : World) (hg : Env w) :
    Calls Tryd.prog 9 #[.agg #[.int .u8 x0.toNat, .int .u8 x1.toNat, .int .u8 x2.toNat, .int .u8 x3.toNat, .int .u8 x4.toNat, .int .u8 x5.toNat, .int .u8 x6.toNat, .int .u8 x7.toNat], .int .i64 8] w fun e w' => e = .returned (.bool true) ∧ Chg [] w w' := by
  obtain ⟨hn1, hn2, hlt, hs1, hs2⟩ := num_8 x0 x1 x2 x3 x4 x5 x6 x7
  generalize leNum [x0, x1, x2, x3, x4, x5, x6, x7] = N at hn1 hn2 hlt
  obtain ⟨l, hl⟩ : ∃ l, l = [x0, x1, x2, x3, x4, x5, x6, x7] := ⟨_, rfl⟩
  obtain ⟨b, hb⟩ : ∃ b : List UInt8, b = [x7, x6, x5, x4, x3, x2, x1, x0] := ⟨_, rfl⟩
  rw [← hl] at hn1 hs1
  rw [← hb] at hn2 hs2
  have HL1 : Hid (l.length ≤ 140737488355328) := Lib.hid (by rw [hl]; show 8 ≤ 140737488355328; omega)
  have HL2 : Hid (b.length ≤ 140737488355328) := Lib.hid (by rw [hb]; show 8 ≤ 140737488355328; omega)
  have HR1 : Hid (Rd ((w.alloc (.cells #[.int .u8 x0.toNat, .int .u8 x1.toNat, .int .u8 x2.toNat, .int .u8 x3.toNat, .int .u8 x4.toNat, .int .u8 x5.toNat, .int .u8 x6.toNat, .int .u8 x7.toNat] 45)).alloc (.cells #[.int .u8 x7.toNat, .int .u8 x6.toNat, .int .u8 x5.toNat, .int .u8 x4.toNat, .int .u8 x3.toNat, .int .u8 x2.toNat, .int .u8 x1.toNat, .int .u8 x0.toNat] 45)) (.slice (some ⟨w.heap.size, 0, none⟩) 8 8) (bytesV l)) := Lib.hid (by rw [hl]; exact Rd_blk2 (xs := bytesV [x0, x1, x2, x3, x4, x5, x6, x7]) ((heap_alloc_lt (by simp) _).trans (heap_alloc_eq w _)) rfl 8 rfl (by show 8 ≤ maxLen; unfold maxLen; omega))
  have HR2 : Hid (Rd ((w.alloc (.cells #[.int .u8 x0.toNat, .int .u8 x1.toNat, .int .u8 x2.toNat, .int .u8 x3.toNat, .int .u8 x4.toNat, .int .u8 x5.toNat, .int .u8 x6.toNat, .int .u8 x7.toNat] 45)).alloc (.cells #[.int .u8 x7.toNat, .int .u8 x6.toNat, .int .u8 x5.toNat, .int .u8 x4.toNat, .int .u8 x3.toNat, .int .u8 x2.toNat, .int .u8 x1.toNat, .int .u8 x0.toNat] 45)) (.slice (some ⟨w.heap.size + 1, 0, none⟩) 8 8) (bytesV b)) := Lib.hid (by rw [hb]; exact Rd_blk2 (xs := bytesV [x7, x6, x5, x4, x3, x2, x1, x0]) (by rw [show w.heap.size + 1 = (w.alloc (.cells #[.int .u8 x0.toNat, .int .u8 x1.toNat, .int .u8 x2.toNat, .int .u8 x3.toNat, .int .u8 x4.toNat, .int .u8 x5.toNat, .int .u8 x6.toNat, .int .u8 x7.toNat] 45)).heap.size from by simp]; exact heap_alloc_eq (w.alloc _) _) rfl 8 rfl (by show 8 ≤ maxLen; unfold maxLen; omega))
  have H0 := Lib.hid (((Curs.start hg).alloc (.cells #[.int .u8 x0.toNat, .int .u8 x1.toNat, .int .u8 x2.toNat, .int .u8 x3.toNat, .int .u8 x4.toNat, .int .u8 x5.toNat, .int .u8 x6.toNat, .int .u8 x7.toNat] 45)).alloc (.cells #[.int .u8 x7.toNat, .int .u8 x6.toNat, .int .u8 x5.toNat, .int .u8 x4.toNat, .int .u8 x3.toNat, .int .u8 x2.toNat, .int .u8 x1.toNat, .int .u8 x0.toNat] 45))
  have Hn1 := Lib.hid hn1
  have Hn2 := Lib.hid hn2
  have Hs1 := Lib.hid hs1
  have Hs2 := Lib.hid hs2
  have Hlt := Lib.hid hlt
  clear hn1 hn2 hs1 hs2 hlt
  clear hl hb hg
  go_enter Tryd.func9, Tryd.ntmps9
  go_wp2_with fail
  refine wp_loop_rounds 9 ?_
  repeat (rw [rounds_succ]; go_wp2_with fail)
  obtain ⟨W2, hW2⟩ : ∃ W2, W2 = ((w.alloc (.cells #[.int .u8 x0.toNat, .int .u8 x1.toNat, .int .u8 x2.toNat, .int .u8 x3.toNat, .int .u8 x4.toNat, .int .u8 x5.toNat, .int .u8 x6.toNat, .int .u8 x7.toNat] 45)).alloc (.cells #[.int .u8 x7.toNat, .int .u8 x6.toNat, .int .u8 x5.toNat, .int .u8 x4.toNat, .int .u8 x3.toNat, .int .u8 x2.toNat, .int .u8 x1.toNat, .int .u8 x0.toNat] 45)) := ⟨_, rfl⟩
  rw [← hW2] at HR1 HR2 H0 ⊢
  clear hW2
  have HD := Lib.hid (H0.out.dr (Dr.refl _).drew)
  have HRD2 : Hid (Rd W2.drew (.slice (some ⟨w.heap.size + 1, 0, none⟩) 8 8) (bytesV b)) := Lib.hid (HR2.out)
  have HRD1 : Hid (Rd W2.drew (.slice (some ⟨w.heap.size, 0, none⟩) 8 8) (bytesV l)) := Lib.hid (HR1.out)
  refine wp_region_noPanic ?_
  refine wp_region_held_drew (S := fun _ => True) (by kernel_rfl) trivial (fun hHeld => ?_)
  refine take_read (i := 0) (v := ?_) (by simp only [List.getElem?_toArray, List.getElem?_cons_zero]; rfl) (by kernel_rfl) (by kernel_rfl) (by kernel_rfl) (fun _ _ _ h => h) hHeld ?_ ?_
  rotate_left
  · intro w hSw
    go_simp
    try with_reducible rfl
  try simp only [Act.put, List.setIfInBounds_toArray, List.set_cons_zero, List.set_cons_succ]
  refine take_read (i := 2) (v := ?_) (by simp only [List.getElem?_toArray, List.getElem?_cons_succ, List.getElem?_cons_zero]; rfl) (by kernel_rfl) (by kernel_rfl) (by kernel_rfl) (fun _ _ _ h => h) hHeld ?_ ?_
  rotate_left
  · intro w hSw
    go_simp
    try with_reducible rfl
  try simp only [Act.put, List.setIfInBounds_toArray, List.set_cons_zero, List.set_cons_succ]
  refine wpAnyH_ready (rs := [1]) (by kernel_rfl) (by simp) ?_
  refine AllReadyH.cons rfl (fun K hK => ?_) AllReadyH.nil
  go_simp
  refine (New_cur _ l false _ HRD1.out HL1.out).mono ?_
  rintro e w3 ⟨x, rfl, hx, hcx, hch⟩
  have H3 := Lib.hid (HD.out.new hch hcx hx)
  have HR3 := Lib.hid (HRD2.out.frame hch (fun _ _ hm => by cases hm))
  clear hx hcx hch
  refine hK.out _ _ trivial (fun _ => ?_)
  clear hK hHeld K
  have hHeld := trivial
  try (unfold Act.put; simp only [List.setIfInBounds_toArray, List.set_cons_zero, List.set_cons_succ])
  refine wpAnyH_ready (rs := [3]) (by kernel_rfl) (by simp) ?_
  refine AllReadyH.cons rfl (fun K hK => ?_) AllReadyH.nil
  go_simp
  refine (New_cur _ b true _ HR3.out HL2.out).mono ?_
  rintro e w4 ⟨y, rfl, hx, hcx, hch⟩
  have H4 := Lib.hid (H3.out.new hch hcx hx)
  clear hx hcx hch
  refine hK.out _ _ trivial (fun _ => ?_)
  clear hK hHeld K
  have hHeld := trivial
  try (unfold Act.put; simp only [List.setIfInBounds_toArray, List.set_cons_zero, List.set_cons_succ])
  refine take_read (i := 4) (v := ?_) (by simp only [List.getElem?_toArray, List.getElem?_cons_succ, List.getElem?_cons_zero]; rfl) (by kernel_rfl) (by kernel_rfl) (by kernel_rfl) (fun _ _ _ h => h) hHeld ?_ ?_
  rotate_left
  · intro w hSw
    go_simp
    try with_reducible rfl
  try simp only [Act.put, List.setIfInBounds_toArray, List.set_cons_zero, List.set_cons_succ]
  refine take_read (i := 5) (v := ?_) (by simp only [List.getElem?_toArray, List.getElem?_cons_succ, List.getElem?_cons_zero]; rfl) (by kernel_rfl) (by kernel_rfl) (by kernel_rfl) (fun _ _ _ h => h) hHeld ?_ ?_
  rotate_left
  · intro w hSw
    go_simp
    try with_reducible rfl
  try simp only [Act.put, List.setIfInBounds_toArray, List.set_cons_zero, List.set_cons_succ]
  refine wpAnyH_done (by kernel_rfl) ?_ _
  refine NoPanic.normal ?_
  clear hHeld
  have H4 := Lib.hid (H4.out.swap)
  go_wp2_with fail
  refine (Number_cur x _ _ _ H4.out.cur).mono ?_
  rintro e w5 ⟨rfl, hcx, hch⟩
  rw [Hs1.out] at hcx
  rw [Hn1.out]
  have H5 := Lib.hid ((H4.out.call hcx hch).swap)
  clear hcx hch
  go_wp2_with fail
  refine (Number_cur y _ _ _ H5.out.cur).mono ?_
  rintro e w6 ⟨rfl, hcx, hch⟩
  rw [Hs2.out] at hcx
  rw [Hn2.out]
  have H6 := Lib.hid ((H5.out.call hcx hch).swap)
  clear hcx hch
  go_wp2_with fail
  refine (At_cur x _ _ H6.out.cur).mono ?_
  rintro e w7 ⟨rfl, rfl⟩
  have H6 := Lib.hid (H6.out.swap)
  go_wp2_with fail
  refine (Err_cur y _ _ H6.out.env H6.out.cur).mono ?_
  rintro e w8 ⟨rfl, hch⟩
  have H8 := Lib.hid (H6.out.pure hch)
  clear hch
  go_wp2_with fail
  refine (known_cur _ H8.out.env).mono ?_
  rintro e w9 ⟨rfl, hch⟩
  have H9 := Lib.hid (H8.out.pure hch)
  clear hch
  go_wp2
  go_ret
  exact ⟨rfl, H9.out.chg⟩
theorem CursorNumbers_walk (w : World) (hg : Env w) (v : Value) {H : Type} {enc : TypeId × Value → H} {r : Reach} {b0 base : Nat} {sp : Nat → Bool} {hd : Bool} (d : DataW H) (p : List MemPlace)
    (hv : Value.okWide Tryd.prog w r b0 45 v) (h : DataW.Trod enc Tryd.prog w base sp hd 45 v d p) (m : Int) (_ : (Lit.int .i64 m).wf = true) :
    Calls Tryd.prog 9 #[v, .int .i64 m] w fun e w' => e = .returned (.bool true) ∧ Chg [] w w' := by
  obtain ⟨x0, x1, x2, x3, x4, x5, x6, x7, rfl⟩ := open_eight hv h
  cases hok : okSize m with
  | false => exact CursorNumbers_no x0 x1 x2 x3 x4 x5 x6 x7 m w hg hok
  | true =>
    have hm : m = 1 ∨ m = 2 ∨ m = 4 ∨ m = 8 := by simpa [okSize] using hok
    rcases hm with rfl | rfl | rfl | rfl
    · exact CursorNumbers_1 x0 x1 x2 x3 x4 x5 x6 x7 w hg
    · exact CursorNumbers_2 x0 x1 x2 x3 x4 x5 x6 x7 w hg
    · exact CursorNumbers_4 x0 x1 x2 x3 x4 x5 x6 x7 w hg
    · exact CursorNumbers_8 x0 x1 x2 x3 x4 x5 x6 x7 w hg
end Go.Proofs.YtpodphfdoonidaaDoor
