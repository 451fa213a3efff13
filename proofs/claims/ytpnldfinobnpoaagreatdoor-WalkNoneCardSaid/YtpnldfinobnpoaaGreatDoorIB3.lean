/- chain.bytes at format 3; at each. -/
import Derived.Test.YtpnldfinobnpoaaGreatDoorIBytes
import Derived.Test.YtpnldfinobnpoaaGreatDoorReg
namespace Go.Proofs.YtpnldfinobnpoaaGreatDoor
open Go.RowKit
set_option maxRecDepth 100000

/-- An import's bytes, of any format. -/
def impBB (x : Imp) (name : Nat) (fmt : Int) : List UInt8 := if fmt = 3 then leB (u64N x.ord % 65536 + (if x.weak then 65536 else 0) + name * 4294967296) 8 ++ leB (u64N x.add) 8 else impB x name fmt
theorem impBB_len (x : Imp) (n : Nat) (f : Int) : (impBB x n f).length ≤ 16 := by
  unfold impBB impB
  split
  · simp [leB_len]
  · split <;> simp [leB_len]
set_option maxHeartbeats 2000000 in
theorem bytes3_any (x : Imp) (name : Nat) (hn : name < 4294967296) (w : World) :
    Calls Tryz.prog 93 #[impL.val x, .int .i64 name, .int .i64 3] w fun e w' => ∃ v, e = .returned v ∧ BB w' w.heap.size v (leB (u64N x.ord % 65536 + (if x.weak then 65536 else 0) + name * 4294967296) 8 ++ leB (u64N x.add) 8) ∧ Chg [] w w' := by
  have q1 : IntKind.u64.wrap x.ord = (u64N x.ord : Int) := by rw [IntKind.wrap_u64, u64N_int]
  have q2 : (u64N x.ord : Int) % 65536 = ((u64N x.ord % 65536 : Nat) : Int) := by omega
  have q2b : bits .and .u64 (u64N x.ord : Int) 65535 = ((u64N x.ord % 65536 : Nat) : Int) := by
    have := u64_and_nat (u64N x.ord) 65535 (u64N_lt _) (by decide)
    rw [show (65535 : Nat) = 2 ^ 16 - 1 from rfl, Nat.and_two_pow_sub_one_eq_mod] at this
    exact this
  have q3 : IntKind.u64.wrap (name : Int) = (name : Int) := by rw [IntKind.wrap_u64]; omega
  have q4 : (name : Int) * 4294967296 = ((name * 4294967296 : Nat) : Int) := by omega
  have q5 : IntKind.u64.wrap x.add = (u64N x.add : Int) := by rw [IntKind.wrap_u64, u64N_int]
  have hA := Nat.mod_lt (u64N x.ord) (show 0 < 65536 by decide)
  have q6 : bits .or .u64 ((u64N x.ord % 65536 : Nat) : Int) 65536 = ((u64N x.ord % 65536 + 65536 : Nat) : Int) := or_disj _ 1 16 65536 rfl hA (by omega)
  have q60 : bits .or .u64 ((u64N x.ord % 65536 : Nat) : Int) 0 = ((u64N x.ord % 65536 : Nat) : Int) := or_disj _ 0 16 65536 rfl hA (by omega)
  have q7 : bits .or .u64 ((u64N x.ord % 65536 + 65536 : Nat) : Int) ((name * 4294967296 : Nat) : Int) = ((u64N x.ord % 65536 + 65536 + name * 4294967296 : Nat) : Int) := or_disj _ name 32 4294967296 rfl (by omega) (by omega)
  have q70 : bits .or .u64 ((u64N x.ord % 65536 : Nat) : Int) ((name * 4294967296 : Nat) : Int) = ((u64N x.ord % 65536 + name * 4294967296 : Nat) : Int) := or_disj _ name 32 4294967296 rfl (by omega) (by omega)
  have qz : IntKind.u64.wrap 0 = 0 := by decide
  have qz1 : IntKind.u64.wrap 65536 = 65536 := by decide
  have q8 : IntKind.u64.wrap ((name * 4294967296 : Nat) : Int) = ((name * 4294967296 : Nat) : Int) := by rw [IntKind.wrap_u64]; omega
  clear hA
  generalize u64N x.add = D at *
  generalize u64N x.ord = U at *
  generalize U % 65536 = A at *
  generalize name * 4294967296 = N at *
  cases hw : x.weak with
  | true =>
    rw [if_pos rfl]
    clear q60 q70
    generalize A + 65536 = A2 at *
    generalize A2 + N = S at *
    go_enter Tryz.func93, Tryz.ntmps93
    go_wp2_with ((with_reducible refine Lay.bxL (L := impL) 71 x ?_ ?_); exact rfl; intro W1 bx ebx cbx xbx; replace ebx := Lib.hid ebx; replace cbx := Lib.hid cbx; replace xbx := Lib.hid xbx; refine Hid.out ?_)
    refine Lib.hid ?_
    have x0 := Imp.c_ord xbx.out
    have x1 := Imp.c_weak xbx.out
    have x3 := Imp.c_add xbx.out
    rw [hw] at x1
    go_upto_region 5 with fail
    refine wp_region_noPanic ?_
    refine wp_region_held_drew (S := fun w' => Chg [] W1 w') (by kernel_rfl) ((Chg.refl _ _).drew) (fun hHeld => ?_)
    refine take_read (i := 0) (v := ?_) (by simp only [List.getElem?_toArray, List.getElem?_cons_zero]; rfl) (by kernel_rfl) (by kernel_rfl) (by kernel_rfl) (fun _ _ _ h => h) hHeld ?_ ?_
    rotate_left
    · intro w hSw
      go_simp
      try with_reducible rfl
    try simp only [Act.put, List.setIfInBounds_toArray, List.set_cons_zero, List.set_cons_succ]
    refine take_read (i := 1) (v := ?_) (by simp only [List.getElem?_toArray, List.getElem?_cons_succ, List.getElem?_cons_zero]; rfl) (by kernel_rfl) (by kernel_rfl) (by kernel_rfl) (fun _ _ _ h => h) hHeld ?_ ?_
    rotate_left
    · intro w hSw
      have x0 := hSw.cell x0 (by simp)
      go_simp
      try with_reducible rfl
    try simp only [Act.put, List.setIfInBounds_toArray, List.set_cons_zero, List.set_cons_succ]
    refine take_read (i := 2) (v := ?_) (by simp only [List.getElem?_toArray, List.getElem?_cons_succ, List.getElem?_cons_zero]; rfl) (by kernel_rfl) (by kernel_rfl) (by kernel_rfl) (fun _ _ _ h => h) hHeld ?_ ?_
    rotate_left
    · intro w hSw
      go_simp
      try with_reducible rfl
    try simp only [Act.put, List.setIfInBounds_toArray, List.set_cons_zero, List.set_cons_succ]
    refine take_read (i := 3) (v := ?_) (by simp only [List.getElem?_toArray, List.getElem?_cons_succ, List.getElem?_cons_zero]; rfl) (by kernel_rfl) (by kernel_rfl) (by kernel_rfl) (fun _ _ _ h => h) hHeld ?_ ?_
    rotate_left
    · intro w hSw
      go_simp
      try with_reducible rfl
    try simp only [Act.put, List.setIfInBounds_toArray, List.set_cons_zero, List.set_cons_succ]
    refine take_read (i := 4) (v := ?_) (by simp only [List.getElem?_toArray, List.getElem?_cons_succ, List.getElem?_cons_zero]; rfl) (by kernel_rfl) (by kernel_rfl) (by kernel_rfl) (fun _ _ _ h => h) hHeld ?_ ?_
    rotate_left
    · intro w hSw
      go_simp
      try with_reducible rfl
    try simp only [Act.put, List.setIfInBounds_toArray, List.set_cons_zero, List.set_cons_succ]
    refine take_read (i := 5) (v := ?_) (by simp only [List.getElem?_toArray, List.getElem?_cons_succ, List.getElem?_cons_zero]; rfl) (by kernel_rfl) (by kernel_rfl) (by kernel_rfl) (fun _ _ _ h => h) hHeld ?_ ?_
    rotate_left
    · intro w hSw
      go_simp
      try with_reducible rfl
    try simp only [Act.put, List.setIfInBounds_toArray, List.set_cons_zero, List.set_cons_succ]
    refine take_read (i := 6) (v := ?_) (by simp only [List.getElem?_toArray, List.getElem?_cons_succ, List.getElem?_cons_zero]; rfl) (by kernel_rfl) (by kernel_rfl) (by kernel_rfl) (fun _ _ _ h => h) hHeld ?_ ?_
    rotate_left
    · intro w hSw
      go_simp
      try with_reducible rfl
    try simp only [Act.put, List.setIfInBounds_toArray, List.set_cons_zero, List.set_cons_succ]
    refine take_read (i := 7) (v := ?_) (by simp only [List.getElem?_toArray, List.getElem?_cons_succ, List.getElem?_cons_zero]; rfl) (by kernel_rfl) (by kernel_rfl) (by kernel_rfl) (fun _ _ _ h => h) hHeld ?_ ?_
    rotate_left
    · intro w hSw
      go_simp
      try with_reducible rfl
    try simp only [Act.put, List.setIfInBounds_toArray, List.set_cons_zero, List.set_cons_succ]
    refine take_read (i := 8) (v := ?_) (by simp only [List.getElem?_toArray, List.getElem?_cons_succ, List.getElem?_cons_zero]; rfl) (by kernel_rfl) (by kernel_rfl) (by kernel_rfl) (fun _ _ _ h => h) hHeld ?_ ?_
    rotate_left
    · intro w hSw
      go_simp
      try with_reducible rfl
    try simp only [Act.put, List.setIfInBounds_toArray, List.set_cons_zero, List.set_cons_succ]
    refine take_read (i := 9) (v := ?_) (by simp only [List.getElem?_toArray, List.getElem?_cons_succ, List.getElem?_cons_zero]; rfl) (by kernel_rfl) (by kernel_rfl) (by kernel_rfl) (fun _ _ _ h => h) hHeld ?_ ?_
    rotate_left
    · intro w hSw
      go_simp
      try with_reducible rfl
    try simp only [Act.put, List.setIfInBounds_toArray, List.set_cons_zero, List.set_cons_succ]
    refine take_read (i := 10) (v := ?_) (by simp only [List.getElem?_toArray, List.getElem?_cons_succ, List.getElem?_cons_zero]; rfl) (by kernel_rfl) (by kernel_rfl) (by kernel_rfl) (fun _ _ _ h => h) hHeld ?_ ?_
    rotate_left
    · intro w hSw
      go_simp
      try with_reducible rfl
    try simp only [Act.put, List.setIfInBounds_toArray, List.set_cons_zero, List.set_cons_succ]
    refine take_read (i := 12) (v := ?_) (by simp only [List.getElem?_toArray, List.getElem?_cons_succ, List.getElem?_cons_zero]; rfl) (by kernel_rfl) (by kernel_rfl) (by kernel_rfl) (fun _ _ _ h => h) hHeld ?_ ?_
    rotate_left
    · intro w hSw
      go_simp
      try with_reducible rfl
    try simp only [Act.put, List.setIfInBounds_toArray, List.set_cons_zero, List.set_cons_succ]
    refine take_read (i := 13) (v := ?_) (by simp only [List.getElem?_toArray, List.getElem?_cons_succ, List.getElem?_cons_zero]; rfl) (by kernel_rfl) (by kernel_rfl) (by kernel_rfl) (fun _ _ _ h => h) hHeld ?_ ?_
    rotate_left
    · intro w hSw
      have x3 := hSw.cell x3 (by simp)
      go_simp
      try with_reducible rfl
    try simp only [Act.put, List.setIfInBounds_toArray, List.set_cons_zero, List.set_cons_succ]
    refine take_read (i := 14) (v := ?_) (by simp only [List.getElem?_toArray, List.getElem?_cons_succ, List.getElem?_cons_zero]; rfl) (by kernel_rfl) (by kernel_rfl) (by kernel_rfl) (fun _ _ _ h => h) hHeld ?_ ?_
    rotate_left
    · intro w hSw
      go_simp
      try with_reducible rfl
    try simp only [Act.put, List.setIfInBounds_toArray, List.set_cons_zero, List.set_cons_succ]
    refine wpAnyH_ready (rs := [11]) (by kernel_rfl) (by simp) ?_
    refine AllReadyH.cons rfl (fun K hK => ?_) AllReadyH.nil
    go_simp
    refine (put_any [] (.slice none 0 0) W1.heap.size S 8 (by decide) _ (Lay.Buf.nil _ _) (by decide) hHeld.size).mono ?_
    rintro e W2 ⟨v1, rfl, hb, hc, _⟩
    have H2 : Hid (Chg [] W1 W2) := Lib.hid (hHeld.then hc)
    have B2 : Hid (BB W2 W1.heap.size v1 (leB S 8)) := Lib.hid (hb)
    clear hb hc
    refine hK.out _ _ H2.out (fun hHeld2 => ?_)
    clear hK hHeld K
    have hHeld := hHeld2
    clear hHeld2
    try (unfold Act.put; simp only [List.setIfInBounds_toArray, List.set_cons_zero, List.set_cons_succ])
    refine wpAnyH_ready (rs := [15]) (by kernel_rfl) (by simp) ?_
    refine AllReadyH.cons rfl (fun K hK => ?_) AllReadyH.nil
    go_simp
    refine (put_any (leB S 8) v1 W1.heap.size D 8 (by decide) _ B2.out (by rw [leB_len]; decide) H2.out.size).mono ?_
    rintro e W3 ⟨v2, rfl, hb, hc, _⟩
    have H3 : Hid (Chg [] W1 W3) := Lib.hid (H2.out.trans hc (fun i hi hw => by have := (B2.out.lt i (by simpa using hi)).1; omega))
    have B3 : Hid (BB W3 W1.heap.size v2 (leB S 8 ++ leB D 8)) := Lib.hid (hb)
    clear hb hc
    refine hK.out _ _ H3.out (fun hHeld2 => ?_)
    clear hK hHeld K
    have hHeld := hHeld2
    clear hHeld2
    try (unfold Act.put; simp only [List.setIfInBounds_toArray, List.set_cons_zero, List.set_cons_succ])
    refine take_read (i := 16) (v := ?_) (by simp only [List.getElem?_toArray, List.getElem?_cons_succ, List.getElem?_cons_zero]; rfl) (by kernel_rfl) (by kernel_rfl) (by kernel_rfl) (fun _ _ _ h => h) hHeld ?_ ?_
    rotate_left
    · intro w hSw
      go_simp
      try with_reducible rfl
    try simp only [Act.put, List.setIfInBounds_toArray, List.set_cons_zero, List.set_cons_succ]
    refine wpAnyH_done (by kernel_rfl) ?_ _
    refine NoPanic.normal ?_
    go_wp2
    go_ret
    exact ⟨_, rfl, B3.out.mono cbx.out.size, cbx.out.then H3.out⟩
  | false =>
    rw [if_neg (by simp), Nat.add_zero]
    clear q6 q7
    generalize A + N = S at *
    go_enter Tryz.func93, Tryz.ntmps93
    go_wp2_with ((with_reducible refine Lay.bxL (L := impL) 71 x ?_ ?_); exact rfl; intro W1 bx ebx cbx xbx; replace ebx := Lib.hid ebx; replace cbx := Lib.hid cbx; replace xbx := Lib.hid xbx; refine Hid.out ?_)
    refine Lib.hid ?_
    have x0 := Imp.c_ord xbx.out
    have x1 := Imp.c_weak xbx.out
    have x3 := Imp.c_add xbx.out
    rw [hw] at x1
    go_upto_region 5 with fail
    refine wp_region_noPanic ?_
    refine wp_region_held_drew (S := fun w' => Chg [] W1 w') (by kernel_rfl) ((Chg.refl _ _).drew) (fun hHeld => ?_)
    refine take_read (i := 0) (v := ?_) (by simp only [List.getElem?_toArray, List.getElem?_cons_zero]; rfl) (by kernel_rfl) (by kernel_rfl) (by kernel_rfl) (fun _ _ _ h => h) hHeld ?_ ?_
    rotate_left
    · intro w hSw
      go_simp
      try with_reducible rfl
    try simp only [Act.put, List.setIfInBounds_toArray, List.set_cons_zero, List.set_cons_succ]
    refine take_read (i := 1) (v := ?_) (by simp only [List.getElem?_toArray, List.getElem?_cons_succ, List.getElem?_cons_zero]; rfl) (by kernel_rfl) (by kernel_rfl) (by kernel_rfl) (fun _ _ _ h => h) hHeld ?_ ?_
    rotate_left
    · intro w hSw
      have x0 := hSw.cell x0 (by simp)
      go_simp
      try with_reducible rfl
    try simp only [Act.put, List.setIfInBounds_toArray, List.set_cons_zero, List.set_cons_succ]
    refine take_read (i := 2) (v := ?_) (by simp only [List.getElem?_toArray, List.getElem?_cons_succ, List.getElem?_cons_zero]; rfl) (by kernel_rfl) (by kernel_rfl) (by kernel_rfl) (fun _ _ _ h => h) hHeld ?_ ?_
    rotate_left
    · intro w hSw
      go_simp
      try with_reducible rfl
    try simp only [Act.put, List.setIfInBounds_toArray, List.set_cons_zero, List.set_cons_succ]
    refine take_read (i := 3) (v := ?_) (by simp only [List.getElem?_toArray, List.getElem?_cons_succ, List.getElem?_cons_zero]; rfl) (by kernel_rfl) (by kernel_rfl) (by kernel_rfl) (fun _ _ _ h => h) hHeld ?_ ?_
    rotate_left
    · intro w hSw
      go_simp
      try with_reducible rfl
    try simp only [Act.put, List.setIfInBounds_toArray, List.set_cons_zero, List.set_cons_succ]
    refine take_read (i := 4) (v := ?_) (by simp only [List.getElem?_toArray, List.getElem?_cons_succ, List.getElem?_cons_zero]; rfl) (by kernel_rfl) (by kernel_rfl) (by kernel_rfl) (fun _ _ _ h => h) hHeld ?_ ?_
    rotate_left
    · intro w hSw
      go_simp
      try with_reducible rfl
    try simp only [Act.put, List.setIfInBounds_toArray, List.set_cons_zero, List.set_cons_succ]
    refine take_read (i := 5) (v := ?_) (by simp only [List.getElem?_toArray, List.getElem?_cons_succ, List.getElem?_cons_zero]; rfl) (by kernel_rfl) (by kernel_rfl) (by kernel_rfl) (fun _ _ _ h => h) hHeld ?_ ?_
    rotate_left
    · intro w hSw
      go_simp
      try with_reducible rfl
    try simp only [Act.put, List.setIfInBounds_toArray, List.set_cons_zero, List.set_cons_succ]
    refine take_read (i := 6) (v := ?_) (by simp only [List.getElem?_toArray, List.getElem?_cons_succ, List.getElem?_cons_zero]; rfl) (by kernel_rfl) (by kernel_rfl) (by kernel_rfl) (fun _ _ _ h => h) hHeld ?_ ?_
    rotate_left
    · intro w hSw
      go_simp
      try with_reducible rfl
    try simp only [Act.put, List.setIfInBounds_toArray, List.set_cons_zero, List.set_cons_succ]
    refine take_read (i := 7) (v := ?_) (by simp only [List.getElem?_toArray, List.getElem?_cons_succ, List.getElem?_cons_zero]; rfl) (by kernel_rfl) (by kernel_rfl) (by kernel_rfl) (fun _ _ _ h => h) hHeld ?_ ?_
    rotate_left
    · intro w hSw
      go_simp
      try with_reducible rfl
    try simp only [Act.put, List.setIfInBounds_toArray, List.set_cons_zero, List.set_cons_succ]
    refine take_read (i := 8) (v := ?_) (by simp only [List.getElem?_toArray, List.getElem?_cons_succ, List.getElem?_cons_zero]; rfl) (by kernel_rfl) (by kernel_rfl) (by kernel_rfl) (fun _ _ _ h => h) hHeld ?_ ?_
    rotate_left
    · intro w hSw
      go_simp
      try with_reducible rfl
    try simp only [Act.put, List.setIfInBounds_toArray, List.set_cons_zero, List.set_cons_succ]
    refine take_read (i := 9) (v := ?_) (by simp only [List.getElem?_toArray, List.getElem?_cons_succ, List.getElem?_cons_zero]; rfl) (by kernel_rfl) (by kernel_rfl) (by kernel_rfl) (fun _ _ _ h => h) hHeld ?_ ?_
    rotate_left
    · intro w hSw
      go_simp
      try with_reducible rfl
    try simp only [Act.put, List.setIfInBounds_toArray, List.set_cons_zero, List.set_cons_succ]
    refine take_read (i := 10) (v := ?_) (by simp only [List.getElem?_toArray, List.getElem?_cons_succ, List.getElem?_cons_zero]; rfl) (by kernel_rfl) (by kernel_rfl) (by kernel_rfl) (fun _ _ _ h => h) hHeld ?_ ?_
    rotate_left
    · intro w hSw
      go_simp
      try with_reducible rfl
    try simp only [Act.put, List.setIfInBounds_toArray, List.set_cons_zero, List.set_cons_succ]
    refine take_read (i := 12) (v := ?_) (by simp only [List.getElem?_toArray, List.getElem?_cons_succ, List.getElem?_cons_zero]; rfl) (by kernel_rfl) (by kernel_rfl) (by kernel_rfl) (fun _ _ _ h => h) hHeld ?_ ?_
    rotate_left
    · intro w hSw
      go_simp
      try with_reducible rfl
    try simp only [Act.put, List.setIfInBounds_toArray, List.set_cons_zero, List.set_cons_succ]
    refine take_read (i := 13) (v := ?_) (by simp only [List.getElem?_toArray, List.getElem?_cons_succ, List.getElem?_cons_zero]; rfl) (by kernel_rfl) (by kernel_rfl) (by kernel_rfl) (fun _ _ _ h => h) hHeld ?_ ?_
    rotate_left
    · intro w hSw
      have x3 := hSw.cell x3 (by simp)
      go_simp
      try with_reducible rfl
    try simp only [Act.put, List.setIfInBounds_toArray, List.set_cons_zero, List.set_cons_succ]
    refine take_read (i := 14) (v := ?_) (by simp only [List.getElem?_toArray, List.getElem?_cons_succ, List.getElem?_cons_zero]; rfl) (by kernel_rfl) (by kernel_rfl) (by kernel_rfl) (fun _ _ _ h => h) hHeld ?_ ?_
    rotate_left
    · intro w hSw
      go_simp
      try with_reducible rfl
    try simp only [Act.put, List.setIfInBounds_toArray, List.set_cons_zero, List.set_cons_succ]
    refine wpAnyH_ready (rs := [11]) (by kernel_rfl) (by simp) ?_
    refine AllReadyH.cons rfl (fun K hK => ?_) AllReadyH.nil
    go_simp
    refine (put_any [] (.slice none 0 0) W1.heap.size S 8 (by decide) _ (Lay.Buf.nil _ _) (by decide) hHeld.size).mono ?_
    rintro e W2 ⟨v1, rfl, hb, hc, _⟩
    have H2 : Hid (Chg [] W1 W2) := Lib.hid (hHeld.then hc)
    have B2 : Hid (BB W2 W1.heap.size v1 (leB S 8)) := Lib.hid (hb)
    clear hb hc
    refine hK.out _ _ H2.out (fun hHeld2 => ?_)
    clear hK hHeld K
    have hHeld := hHeld2
    clear hHeld2
    try (unfold Act.put; simp only [List.setIfInBounds_toArray, List.set_cons_zero, List.set_cons_succ])
    refine wpAnyH_ready (rs := [15]) (by kernel_rfl) (by simp) ?_
    refine AllReadyH.cons rfl (fun K hK => ?_) AllReadyH.nil
    go_simp
    refine (put_any (leB S 8) v1 W1.heap.size D 8 (by decide) _ B2.out (by rw [leB_len]; decide) H2.out.size).mono ?_
    rintro e W3 ⟨v2, rfl, hb, hc, _⟩
    have H3 : Hid (Chg [] W1 W3) := Lib.hid (H2.out.trans hc (fun i hi hw => by have := (B2.out.lt i (by simpa using hi)).1; omega))
    have B3 : Hid (BB W3 W1.heap.size v2 (leB S 8 ++ leB D 8)) := Lib.hid (hb)
    clear hb hc
    refine hK.out _ _ H3.out (fun hHeld2 => ?_)
    clear hK hHeld K
    have hHeld := hHeld2
    clear hHeld2
    try (unfold Act.put; simp only [List.setIfInBounds_toArray, List.set_cons_zero, List.set_cons_succ])
    refine take_read (i := 16) (v := ?_) (by simp only [List.getElem?_toArray, List.getElem?_cons_succ, List.getElem?_cons_zero]; rfl) (by kernel_rfl) (by kernel_rfl) (by kernel_rfl) (fun _ _ _ h => h) hHeld ?_ ?_
    rotate_left
    · intro w hSw
      go_simp
      try with_reducible rfl
    try simp only [Act.put, List.setIfInBounds_toArray, List.set_cons_zero, List.set_cons_succ]
    refine wpAnyH_done (by kernel_rfl) ?_ _
    refine NoPanic.normal ?_
    go_wp2
    go_ret
    exact ⟨_, rfl, B3.out.mono cbx.out.size, cbx.out.then H3.out⟩
theorem bytes_any (x : Imp) (name : Nat) (hn : name < 4294967296) (fmt : Int) (w : World) :
    Calls Tryz.prog 93 #[impL.val x, .int .i64 name, .int .i64 fmt] w fun e w' => ∃ v, e = .returned v ∧ BB w' w.heap.size v (impBB x name fmt) ∧ Chg [] w w' := by
  unfold impBB
  by_cases h : fmt = 3
  · subst h
    rw [if_pos rfl]
    exact bytes3_any x name hn w
  · rw [if_neg h]
    exact bytes12_any x name hn fmt h w
end Go.Proofs.YtpnldfinobnpoaaGreatDoor
