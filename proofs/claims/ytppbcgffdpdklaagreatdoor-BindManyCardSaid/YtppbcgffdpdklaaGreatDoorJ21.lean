/- Lemmas, laid together: part 21 of 39. Conditions: none but each lemma's own. -/
import Derived.Test.YtppbcgffdpdklaaGreatDoorJ14
import Derived.Test.YtppbcgffdpdklaaGreatDoorJ15
import Derived.Test.YtppbcgffdpdklaaGreatDoorJ13
import Derived.Test.YtppbcgffdpdklaaGreatDoorJ20
import Derived.Test.YtppbcgffdpdklaaGreatDoorJ17
import Derived.Laws.Externs
import Derived.Recover
/- bind: refuse, number, on, end, the ordinals, the place. -/
namespace Go.Proofs.YtppbcgffdpdklaaGreatDoor
open Go.RowKit
set_option maxRecDepth 100000

theorem refuse_ok (n : Int) (w : World) : Calls Tryz.prog 13 #[.bool false, .int .i64 n] w fun e w' => e = .returned (.tuple #[]) ∧ w' = w := by
  go_enter Tryz.func13, Tryz.ntmps13
  go_wp2
  go_end0
  exact ⟨rfl, rfl⟩
/-- What ends a stream. -/
def stopB (n : Int) : Ending := .panicked [{ v := .iface 49 (.agg #[.int .i64 n]), recovered := false }]
theorem refuse_bad (n : Int) (w : World) : Calls Tryz.prog 13 #[.bool true, .int .i64 n] w fun e w' => e = stopB n ∧ w' = w := by
  go_enter Tryz.func13, Tryz.ntmps13
  go_wp2
  exact ⟨rfl, rfl, rfl⟩
theorem number_ok (b bc n : Nat) (r : Brd) (s : CS) (hc : r.c = some ⟨bc, 0, none⟩) (hlt : bc < b) (hf : (lebS ulebR s).failed = false) (hv : lebV ulebR s = n) (w : World) (hg : Env w) (hcur : CurB w bc s) (hb : brdL.Box w b r) :
    Calls Tryz.prog 44 #[.pointer (some ⟨b, 0, none⟩)] w fun e w' => e = .returned (.int .u64 n) ∧ CurB w' bc (lebS ulebR s) ∧ Chg [bc] w w' := by
  have HER := Lib.hid (fun w hcur => Err_ok bc (lebS ulebR s) w hcur hf)
  have HUL := Lib.hid (fun w hg hcur => Uleb_cur bc s w hg hcur)
  rw [hv] at HUL
  have x0 := Brd.c_c hb
  rw [hc] at x0
  have Hcur := Lib.hid hcur
  have Hb := Lib.hid hb
  have Hg := Lib.hid hg
  have Hf := Lib.hid hf
  have Hv := Lib.hid hv
  clear hcur hb hg hf hv
  go_enter Tryz.func44, Tryz.ntmps44
  go_wp2_with fail
  refine (HUL.out _ Hg.out Hcur.out).mono ?_
  rintro e W1 ⟨rfl, hc1, h1⟩
  have B1 := Lib.hid (Hb.out.frameS h1 (by simp; omega))
  replace x0 := Brd.c_c B1.out
  rw [hc] at x0
  have CU1 := Lib.hid hc1
  have C1 := Lib.hid h1
  clear hc1 h1
  go_wp2_with fail
  refine (HER.out _ CU1.out).mono ?_
  rintro e W2 ⟨rfl, h2⟩
  have CU2 := Lib.hid (CU1.out.frame h2)
  have C2 := Lib.hid (C1.out.then h2)
  clear h2 x0
  go_wp2_with fail
  refine (refuse_ok 3 _).mono ?_
  rintro e W3 ⟨rfl, rfl⟩
  go_wp2
  go_ret
  exact ⟨rfl, CU2.out, C2.out⟩
theorem Add64_runB (x y : Nat) (w : World) : (callFunc 63 #[.int .u64 x, .int .u64 y, .int .u64 0]).run Tryz.prog w =
    .ok (.value (.tuple #[.int .u64 (((x + y) % 18446744073709551616 : Nat) : Int), .int .u64 (((x + y) / 18446744073709551616 : Nat) : Int)])) w := by
  rw [run_callFunc_extern Tryz.func63 (by kernel_rfl) (by kernel_rfl) (by kernel_rfl) (e := add64Entry) (by kernel_rfl)]
  have := run_add64 (P := Tryz.prog) x y 0 (by omega) (by omega) (by omega) (by omega) w
  rw [this]
  simp only [Result.andThen]
  congr 5 <;> omega
theorem on_ok (b : Nat) (r : Brd) (A n : Nat) (hA : r.f.at_ = A) (h : A + n < 18446744073709551616) (w : World) (hb : brdL.Box w b r) :
    Calls Tryz.prog 49 #[.pointer (some ⟨b, 0, none⟩), .int .u64 n] w fun e w' => e = .returned (.tuple #[]) ∧ brdL.Box w' b { r with f := { r.f with at_ := ((A + n : Nat) : Int) } } ∧ Chg [b] w w' := by
  have hr := Add64_runB A n
  rw [Nat.mod_eq_of_lt h, Nat.div_eq_of_lt h] at hr
  have x3 := Brd.c_at hb
  have z3 := hb.frozen 27
  rw [hA] at x3
  have Hr := Lib.hid hr
  have Hb := Lib.hid hb
  have HA := Lib.hid hA
  have H := Lib.hid h
  clear hr hb hA h
  obtain ⟨B, hB⟩ : ∃ B : Nat, B = A + n := ⟨_, rfl⟩
  rw [← hB] at Hr ⊢
  have hr2 := fun w => Hr.out w
  clear hB
  go_enter Tryz.func49, Tryz.ntmps49
  go_wp2_with fail
  refine (refuse_ok 4 _).mono ?_
  rintro e W3 ⟨rfl, rfl⟩
  go_wp2
  go_end0
  exact ⟨rfl, Brd.set_at Hb.out _, (Chg.refl [b] _).setCell _ _ (.inl (by simp))⟩
theorem end_ok (b : Nat) (r : Brd) (hk : r.kind = 1) (w : World) (hb : brdL.Box w b r) :
    Calls Tryz.prog 20 #[.pointer (some ⟨b, 0, none⟩)] w fun e w' => e = .returned (.tuple #[]) ∧ brdL.Box w' b { r with ended := true } ∧ Chg [b] w w' := by
  have x3 := Brd.c_kind hb
  rw [hk] at x3
  have x7 := Brd.c_ended hb
  have z7 := hb.frozen 37
  have Hb := Lib.hid hb
  have Hk := Lib.hid hk
  clear hb hk
  go_enter Tryz.func20, Tryz.ntmps20
  go_wp2
  go_end0
  exact ⟨rfl, Brd.set_ended Hb.out _, (Chg.refl [b] _).setCell _ _ (.inl (by simp))⟩
theorem setOrd_ok (b n : Nat) (r : Brd) (hk : r.kind = 1) (hn : n ≤ r.m.deps.n) (hn2 : n ≤ 1000) (hd2 : r.m.deps.n ≤ 1000) (w : World) (hb : brdL.Box w b r) :
    Calls Tryz.prog 43 #[.pointer (some ⟨b, 0, none⟩), .int .u64 n] w fun e w' => e = .returned (.tuple #[]) ∧ brdL.Box w' b { r with f := { r.f with ord := (n : Int) } } ∧ Chg [b] w w' := by
  have x3 := Brd.c_kind hb
  rw [hk] at x3
  have x6 : w.cell? ⟨b, 6, none⟩ = some (.slice r.m.deps.a r.m.deps.n r.m.deps.cap) := by have := hb.in 6 (by decide); rw [Nat.zero_add] at this; exact this
  have x7 := Brd.c_ord hb
  have z7 := hb.frozen 30
  obtain ⟨d, hd⟩ : ∃ d, r.m.deps.n = d := ⟨_, rfl⟩
  rw [hd] at x6 hn hd2
  have hw1 : IntKind.u64.wrap (d : Int) = (d : Int) := by rw [IntKind.wrap_u64]; omega
  have hw2 : IntKind.i64.wrap (n : Int) = (n : Int) := by rw [IntKind.wrap_i64]; omega
  have d1 : decide (d < n) = false := by simp; omega
  have Hb := Lib.hid hb
  have Hk := Lib.hid hk
  have Hd := Lib.hid hd
  clear hb hk hd
  go_enter Tryz.func43, Tryz.ntmps43
  go_wp2_with fail
  refine (refuse_ok 14 _).mono ?_
  rintro e W3 ⟨rfl, rfl⟩
  go_wp2_with fail
  refine (refuse_ok 22 _).mono ?_
  rintro e W3 ⟨rfl, rfl⟩
  go_wp2
  go_end0
  exact ⟨rfl, Brd.set_ord Hb.out _, (Chg.refl [b] _).setCell _ _ (.inl (by simp))⟩
theorem ordinal_ok (b n : Nat) (r : Brd) (hk : r.kind = 1) (hi : r.imm = n) (hn : n ≤ r.m.deps.n) (hn2 : n ≤ 1000) (hd2 : r.m.deps.n ≤ 1000) (w : World) (hb : brdL.Box w b r) :
    Calls Tryz.prog 21 #[.pointer (some ⟨b, 0, none⟩)] w fun e w' => e = .returned (.tuple #[]) ∧ brdL.Box w' b { r with f := { r.f with ord := (n : Int) } } ∧ Chg [b] w w' := by
  have x3 := Brd.c_imm hb
  rw [hi] at x3
  have hw1 : IntKind.u64.wrap (n : Int) = (n : Int) := by rw [IntKind.wrap_u64]; omega
  have HSO := Lib.hid (setOrd_ok b n r hk hn hn2 hd2 w hb)
  have Hb := Lib.hid hb
  have Hk := Lib.hid hk
  have Hi := Lib.hid hi
  have Hn := Lib.hid hn
  clear hb hk hi hn
  go_enter Tryz.func21, Tryz.ntmps21
  go_wp2_with fail
  refine HSO.out.mono ?_
  rintro e W1 ⟨rfl, h1, h2⟩
  have H1 := Lib.hid h1
  have H2 := Lib.hid h2
  clear h1 h2
  go_wp2
  go_end0
  exact ⟨rfl, H1.out, H2.out⟩
theorem special_ok (b : Nat) (r : Brd) (hk : r.kind = 1) (hi : r.imm = 14) (w : World) (hb : brdL.Box w b r) :
    Calls Tryz.prog 23 #[.pointer (some ⟨b, 0, none⟩)] w fun e w' => e = .returned (.tuple #[]) ∧ brdL.Box w' b { r with f := { r.f with ord := -2 } } ∧ Chg [b] w w' := by
  have x3 := Brd.c_kind hb
  rw [hk] at x3
  have x4 := Brd.c_imm hb
  rw [hi] at x4
  have x7 := Brd.c_ord hb
  have z7 := hb.frozen 30
  have hw1 : IntKind.i8.wrap 224 = -32 := by decide
  have hw2 : wrap64 (-2) = -2 := by unfold wrap64; omega
  have hw3 : wrap64 ((-32 : Int) / 16) = -2 := by unfold wrap64; omega
  have Hb := Lib.hid hb
  have Hk := Lib.hid hk
  have Hi := Lib.hid hi
  clear hb hk hi
  go_enter Tryz.func23, Tryz.ntmps23
  go_wp2_with fail
  refine (refuse_ok 14 _).mono ?_
  rintro e W3 ⟨rfl, rfl⟩
  go_wp2_with fail
  refine (refuse_ok 22 _).mono ?_
  rintro e W3 ⟨rfl, rfl⟩
  go_wp2
  go_end0
  exact ⟨rfl, Brd.set_ord Hb.out _, (Chg.refl [b] _).setCell _ _ (.inl (by simp))⟩
end Go.Proofs.YtppbcgffdpdklaaGreatDoor
/- bind: the place. -/
namespace Go.Proofs.YtppbcgffdpdklaaGreatDoor
open Go.RowKit
set_option maxRecDepth 100000

set_option maxHeartbeats 2000000 in
theorem place_ok (b bc imm n : Nat) (r : Brd) (s : CS) (hi : r.imm = imm) (hi2 : imm < 256) (hc : r.c = some ⟨bc, 0, none⟩) (hlt : bc < b) (hf : (lebS ulebR s).failed = false) (hv : lebV ulebR s = n) (w : World) (hg : Env w) (hcur : CurB w bc s) (hb : brdL.Box w b r)
    (ls : List Seg) (hrd : segL.Rd w r.m.segs.v ls) (hoo : ∀ k, r.m.segs.v.ownBlock = some k → k ∉ [bc]) (A : Int) (hA : placeS ls imm n = (A, 0)) :
    Calls Tryz.prog 27 #[.pointer (some ⟨b, 0, none⟩)] w fun e w' => e = .returned (.tuple #[]) ∧ brdL.Box w' b { r with f := { r.f with at_ := A }, is_ := true } ∧ CurB w' bc (lebS ulebR s) ∧ Chg [b, bc] w w' := by
  have HPL := Lib.hid (fun w rd => Place_any r.m ls (imm : Int) (by omega) (n : Int) w rd)
  rw [hA] at HPL
  have HNB := Lib.hid (fun w hg hcur hb => number_ok b bc n r s hc hlt hf hv w hg hcur hb)
  have hwi : IntKind.u64.wrap (imm : Int) = (imm : Int) := by rw [IntKind.wrap_u64]; omega
  have x4 := Brd.c_imm hb
  rw [hi] at x4
  have hbc : b ∉ [bc] := by simp; omega
  have Hcur := Lib.hid hcur
  have Hb := Lib.hid hb
  have Hg := Lib.hid hg
  have Hf := Lib.hid hf
  have Hv := Lib.hid hv
  have Hrd := Lib.hid hrd
  have Hoo := Lib.hid hoo
  have HA := Lib.hid hA
  have Hi := Lib.hid hi
  clear hcur hb hg hf hv hrd hoo hA hi
  go_enter Tryz.func27, Tryz.ntmps27
  go_upto_region 0 with fail
  refine wp_region_noPanic ?_
  refine wp_region_held_drew (S := fun w' => Chg [bc] w w') (by kernel_rfl) ((Chg.refl [] w).drew).add (fun hHeld => ?_)
  refine take_read (i := 0) (v := ?_) (by simp only [List.getElem?_toArray, List.getElem?_cons_zero]; rfl) (by kernel_rfl) (by kernel_rfl) (by kernel_rfl) (fun _ _ _ h => h) hHeld ?_ ?_
  rotate_left
  · intro w hSw
    go_simp
    try with_reducible rfl
  try simp only [Act.put, List.setIfInBounds_toArray, List.set_cons_zero, List.set_cons_succ]
  refine take_read (i := 1) (v := ?_) (by simp only [List.getElem?_toArray, List.getElem?_cons_succ, List.getElem?_cons_zero]; rfl) (by kernel_rfl) (by kernel_rfl) (by kernel_rfl) (fun _ _ _ h => h) hHeld ?_ ?_
  rotate_left
  · intro w hSw
    go_simp
    try with_reducible rfl
  try simp only [Act.put, List.setIfInBounds_toArray, List.set_cons_zero, List.set_cons_succ]
  refine take_read (i := 2) (v := ?_) (by simp only [List.getElem?_toArray, List.getElem?_cons_succ, List.getElem?_cons_zero]; rfl) (by kernel_rfl) (by kernel_rfl) (by kernel_rfl) (fun _ _ _ h => h) hHeld ?_ ?_
  rotate_left
  · intro w hSw
    go_simp
    try with_reducible rfl
  try simp only [Act.put, List.setIfInBounds_toArray, List.set_cons_zero, List.set_cons_succ]
  refine take_read (i := 3) (v := ?_) (by simp only [List.getElem?_toArray, List.getElem?_cons_succ, List.getElem?_cons_zero]; rfl) (by kernel_rfl) (by kernel_rfl) (by kernel_rfl) (fun _ _ _ h => h) hHeld ?_ ?_
  rotate_left
  · intro w hSw
    refine Lay.read_ld Tryz.tImg ((Brd.i_m (Hb.out.frameS hSw hbc))) ?_ ?_
    exact rfl
    exact rfl
  try simp only [Act.put, List.setIfInBounds_toArray, List.set_cons_zero, List.set_cons_succ]
  refine take_read (i := 4) (v := ?_) (by simp only [List.getElem?_toArray, List.getElem?_cons_succ, List.getElem?_cons_zero]; rfl) (by kernel_rfl) (by kernel_rfl) (by kernel_rfl) (fun _ _ _ h => h) hHeld ?_ ?_
  rotate_left
  · intro w hSw
    go_simp
    try with_reducible rfl
  try simp only [Act.put, List.setIfInBounds_toArray, List.set_cons_zero, List.set_cons_succ]
  refine take_read (i := 5) (v := ?_) (by simp only [List.getElem?_toArray, List.getElem?_cons_succ, List.getElem?_cons_zero]; rfl) (by kernel_rfl) (by kernel_rfl) (by kernel_rfl) (fun _ _ _ h => h) hHeld ?_ ?_
  rotate_left
  · intro w hSw
    go_simp
    try with_reducible rfl
  try simp only [Act.put, List.setIfInBounds_toArray, List.set_cons_zero, List.set_cons_succ]
  refine take_read (i := 6) (v := ?_) (by simp only [List.getElem?_toArray, List.getElem?_cons_succ, List.getElem?_cons_zero]; rfl) (by kernel_rfl) (by kernel_rfl) (by kernel_rfl) (fun _ _ _ h => h) hHeld ?_ ?_
  rotate_left
  · intro w hSw
    go_simp
    try with_reducible rfl
  try simp only [Act.put, List.setIfInBounds_toArray, List.set_cons_zero, List.set_cons_succ]
  refine take_read (i := 7) (v := ?_) (by simp only [List.getElem?_toArray, List.getElem?_cons_succ, List.getElem?_cons_zero]; rfl) (by kernel_rfl) (by kernel_rfl) (by kernel_rfl) (fun _ _ _ h => h) hHeld ?_ ?_
  rotate_left
  · intro w hSw
    have x4 := hSw.cell x4 hbc
    go_simp
    try with_reducible rfl
  try simp only [Act.put, List.setIfInBounds_toArray, List.set_cons_zero, List.set_cons_succ]
  refine take_read (i := 8) (v := ?_) (by simp only [List.getElem?_toArray, List.getElem?_cons_succ, List.getElem?_cons_zero]; rfl) (by kernel_rfl) (by kernel_rfl) (by kernel_rfl) (fun _ _ _ h => h) hHeld ?_ ?_
  rotate_left
  · intro w hSw
    go_simp
    try with_reducible rfl
  try simp only [Act.put, List.setIfInBounds_toArray, List.set_cons_zero, List.set_cons_succ]
  refine take_read (i := 9) (v := ?_) (by simp only [List.getElem?_toArray, List.getElem?_cons_succ, List.getElem?_cons_zero]; rfl) (by kernel_rfl) (by kernel_rfl) (by kernel_rfl) (fun _ _ _ h => h) hHeld ?_ ?_
  rotate_left
  · intro w hSw
    go_simp
    try with_reducible rfl
  try simp only [Act.put, List.setIfInBounds_toArray, List.set_cons_zero, List.set_cons_succ]
  refine wpAnyH_ready (rs := [10]) (by kernel_rfl) (by simp) ?_
  refine AllReadyH.cons rfl (fun K hK => ?_) AllReadyH.nil
  go_simp
  refine (HNB.out _ (Hg.out.frame ((Chg.refl [] w).drew) (by simp)) (Hcur.out.frame ((Chg.refl [] w).drew)) (Hb.out.frame ((Chg.refl [] w).drew))).mono ?_
  rintro e W1 ⟨rfl, hc1, h1⟩
  have C1 : Hid (Chg [bc] w W1) := Lib.hid (((Chg.refl [] w).drew).add.same h1)
  have CU1 := Lib.hid hc1
  clear hc1
  clear h1
  refine hK.out _ _ C1.out (fun hHeld2 => ?_)
  clear hK hHeld K
  have hHeld := hHeld2
  clear hHeld2
  try (unfold Act.put; simp only [List.setIfInBounds_toArray, List.set_cons_zero, List.set_cons_succ])
  refine wpAnyH_ready (rs := [11]) (by kernel_rfl) (by simp) ?_
  refine AllReadyH.cons rfl (fun K hK => ?_) AllReadyH.nil
  go_simp
  refine (HPL.out _ (Hrd.out.frameS C1.out Hoo.out)).mono ?_
  rintro e W2 ⟨rfl, h2⟩
  have C2 : Hid (Chg [bc] w W2) := Lib.hid (C1.out.then h2)
  have CU2 := Lib.hid (CU1.out.frame h2)
  clear h2
  refine hK.out _ _ C2.out (fun hHeld2 => ?_)
  clear hK hHeld K
  have hHeld := hHeld2
  clear hHeld2
  try (unfold Act.put; simp only [List.setIfInBounds_toArray, List.set_cons_zero, List.set_cons_succ])
  refine take_read (i := 12) (v := ?_) (by simp only [List.getElem?_toArray, List.getElem?_cons_succ, List.getElem?_cons_zero]; rfl) (by kernel_rfl) (by kernel_rfl) (by kernel_rfl) (fun _ _ _ h => h) hHeld ?_ ?_
  rotate_left
  · intro w hSw
    go_simp
    try with_reducible rfl
  try simp only [Act.put, List.setIfInBounds_toArray, List.set_cons_zero, List.set_cons_succ]
  refine take_read (i := 13) (v := ?_) (by simp only [List.getElem?_toArray, List.getElem?_cons_succ, List.getElem?_cons_zero]; rfl) (by kernel_rfl) (by kernel_rfl) (by kernel_rfl) (fun _ _ _ h => h) hHeld ?_ ?_
  rotate_left
  · intro w hSw
    go_simp
    try with_reducible rfl
  try simp only [Act.put, List.setIfInBounds_toArray, List.set_cons_zero, List.set_cons_succ]
  refine take_read (i := 14) (v := ?_) (by simp only [List.getElem?_toArray, List.getElem?_cons_succ, List.getElem?_cons_zero]; rfl) (by kernel_rfl) (by kernel_rfl) (by kernel_rfl) (fun _ _ _ h => h) hHeld ?_ ?_
  rotate_left
  · intro w hSw
    go_simp
    try with_reducible rfl
  try simp only [Act.put, List.setIfInBounds_toArray, List.set_cons_zero, List.set_cons_succ]
  refine take_read (i := 15) (v := ?_) (by simp only [List.getElem?_toArray, List.getElem?_cons_succ, List.getElem?_cons_zero]; rfl) (by kernel_rfl) (by kernel_rfl) (by kernel_rfl) (fun _ _ _ h => h) hHeld ?_ ?_
  rotate_left
  · intro w hSw
    go_simp
    try with_reducible rfl
  try simp only [Act.put, List.setIfInBounds_toArray, List.set_cons_zero, List.set_cons_succ]
  refine take_read (i := 16) (v := ?_) (by simp only [List.getElem?_toArray, List.getElem?_cons_succ, List.getElem?_cons_zero]; rfl) (by kernel_rfl) (by kernel_rfl) (by kernel_rfl) (fun _ _ _ h => h) hHeld ?_ ?_
  rotate_left
  · intro w hSw
    go_simp
    try with_reducible rfl
  try simp only [Act.put, List.setIfInBounds_toArray, List.set_cons_zero, List.set_cons_succ]
  refine wpAnyH_done (by kernel_rfl) ?_ _
  refine NoPanic.normal ?_
  have B2 := Lib.hid (Hb.out.frameS C2.out hbc)
  clear hHeld x4
  have x6 := Brd.c_at B2.out
  have x7 := Brd.c_is B2.out
  have z6 := B2.out.frozen 27
  have z7 := B2.out.frozen 34
  go_wp2_with fail
  refine (refuse_ok 0 _).mono ?_
  rintro e W3 ⟨rfl, rfl⟩
  go_wp2
  go_end0
  exact ⟨rfl, Brd.set_is (Brd.set_at B2.out A) true, (CU2.out.far2 (S := [b]) (((Chg.refl _ _).setCell _ _ (.inl (by simp))).setCell _ _ (.inl (by simp))) (by simp; omega)), ((C2.out.mono (by simp)).setCell _ _ (.inl (by simp))).setCell _ _ (.inl (by simp))⟩
end Go.Proofs.YtppbcgffdpdklaaGreatDoor
