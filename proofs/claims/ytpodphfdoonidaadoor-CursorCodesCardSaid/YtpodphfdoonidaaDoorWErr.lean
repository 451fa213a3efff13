/- Errno.Word and Wrong.Error, walked. -/
import Derived.Test.YtpodphfdoonidaaDoorShelf
import Derived.Test.YtpodphfdoonidaaDoorReg
import Derived.Test.YtpodphfdoonidaaDoorF
namespace Go.Proofs.YtpodphfdoonidaaDoor
open Go.RowKit
set_option maxRecDepth 100000

/-- An errno's word. -/
def wordB (e : Int) : ByteArray :=
  if e = 0 then ⟨#[111, 107]⟩ else
  if e = 1 then ⟨#[110, 105, 108]⟩ else
  if e = 2 then ⟨#[97, 114, 103]⟩ else
  if e = 3 then ⟨#[115, 104, 111, 114, 116]⟩ else
  if e = 4 then ⟨#[114, 97, 110, 103, 101]⟩ else
  if e = 5 then ⟨#[109, 97, 103, 105, 99]⟩ else
  if e = 6 then ⟨#[97, 114, 99, 104]⟩ else
  if e = 7 then ⟨#[99, 111, 109, 109, 97, 110, 100]⟩ else
  if e = 8 then ⟨#[115, 101, 103, 109, 101, 110, 116]⟩ else
  if e = 9 then ⟨#[115, 101, 99, 116, 105, 111, 110]⟩ else
  if e = 10 then ⟨#[110, 97, 109, 101]⟩ else
  if e = 11 then ⟨#[109, 97, 110, 121]⟩ else
  if e = 12 then ⟨#[116, 114, 105, 101]⟩ else
  if e = 13 then ⟨#[115, 121, 109, 116, 97, 98]⟩ else
  if e = 14 then ⟨#[111, 112, 99, 111, 100, 101]⟩ else
  if e = 15 then ⟨#[99, 104, 97, 105, 110]⟩ else
  if e = 16 then ⟨#[105, 109, 112, 111, 114, 116]⟩ else
  if e = 17 then ⟨#[109, 105, 115, 115, 105, 110, 103]⟩ else
  if e = 18 then ⟨#[115, 121, 109, 98, 111, 108]⟩ else
  if e = 19 then ⟨#[112, 114, 111, 116]⟩ else
  if e = 20 then ⟨#[114, 111, 111, 109]⟩ else
  if e = 21 then ⟨#[116, 119, 105, 99, 101]⟩ else
  if e = 22 then ⟨#[111, 114, 100, 105, 110, 97, 108]⟩ else
  ⟨#[]⟩
theorem ite_size {c : Prop} [Decidable c] {a b : ByteArray} {n : Nat} (h : a.size ≤ n) (k : b.size ≤ n) : (if c then a else b).size ≤ n := by split <;> assumption
theorem wordB_size (e : Int) : (wordB e).size ≤ 7 := by
  unfold wordB
  repeat' refine ite_size (by decide) ?_
  decide
set_option maxHeartbeats 1000000 in
theorem Word_any (e : Int) (w : World) : Calls Tryd.prog 43 #[.int .i64 e] w fun r w' => r = .returned (.string (wordB e)) ∧ w' = w := by
  obtain ⟨s, hs⟩ : ∃ s, s = wordB e := ⟨_, rfl⟩
  rw [← hs]
  have HS := Lib.hid hs
  clear hs
  by_cases h0 : e = 0
  · subst h0
    obtain rfl : s = ⟨#[111, 107]⟩ := HS.out
    go_enter Tryd.func43, Tryd.ntmps43
    go_wp2
    go_ret
    exact ⟨rfl, rfl⟩
  by_cases h1 : e = 1
  · subst h1
    obtain rfl : s = ⟨#[110, 105, 108]⟩ := HS.out
    go_enter Tryd.func43, Tryd.ntmps43
    go_wp2
    go_ret
    exact ⟨rfl, rfl⟩
  by_cases h2 : e = 2
  · subst h2
    obtain rfl : s = ⟨#[97, 114, 103]⟩ := HS.out
    go_enter Tryd.func43, Tryd.ntmps43
    go_wp2
    go_ret
    exact ⟨rfl, rfl⟩
  by_cases h3 : e = 3
  · subst h3
    obtain rfl : s = ⟨#[115, 104, 111, 114, 116]⟩ := HS.out
    go_enter Tryd.func43, Tryd.ntmps43
    go_wp2
    go_ret
    exact ⟨rfl, rfl⟩
  by_cases h4 : e = 4
  · subst h4
    obtain rfl : s = ⟨#[114, 97, 110, 103, 101]⟩ := HS.out
    go_enter Tryd.func43, Tryd.ntmps43
    go_wp2
    go_ret
    exact ⟨rfl, rfl⟩
  by_cases h5 : e = 5
  · subst h5
    obtain rfl : s = ⟨#[109, 97, 103, 105, 99]⟩ := HS.out
    go_enter Tryd.func43, Tryd.ntmps43
    go_wp2
    go_ret
    exact ⟨rfl, rfl⟩
  by_cases h6 : e = 6
  · subst h6
    obtain rfl : s = ⟨#[97, 114, 99, 104]⟩ := HS.out
    go_enter Tryd.func43, Tryd.ntmps43
    go_wp2
    go_ret
    exact ⟨rfl, rfl⟩
  by_cases h7 : e = 7
  · subst h7
    obtain rfl : s = ⟨#[99, 111, 109, 109, 97, 110, 100]⟩ := HS.out
    go_enter Tryd.func43, Tryd.ntmps43
    go_wp2
    go_ret
    exact ⟨rfl, rfl⟩
  by_cases h8 : e = 8
  · subst h8
    obtain rfl : s = ⟨#[115, 101, 103, 109, 101, 110, 116]⟩ := HS.out
    go_enter Tryd.func43, Tryd.ntmps43
    go_wp2
    go_ret
    exact ⟨rfl, rfl⟩
  by_cases h9 : e = 9
  · subst h9
    obtain rfl : s = ⟨#[115, 101, 99, 116, 105, 111, 110]⟩ := HS.out
    go_enter Tryd.func43, Tryd.ntmps43
    go_wp2
    go_ret
    exact ⟨rfl, rfl⟩
  by_cases h10 : e = 10
  · subst h10
    obtain rfl : s = ⟨#[110, 97, 109, 101]⟩ := HS.out
    go_enter Tryd.func43, Tryd.ntmps43
    go_wp2
    go_ret
    exact ⟨rfl, rfl⟩
  by_cases h11 : e = 11
  · subst h11
    obtain rfl : s = ⟨#[109, 97, 110, 121]⟩ := HS.out
    go_enter Tryd.func43, Tryd.ntmps43
    go_wp2
    go_ret
    exact ⟨rfl, rfl⟩
  by_cases h12 : e = 12
  · subst h12
    obtain rfl : s = ⟨#[116, 114, 105, 101]⟩ := HS.out
    go_enter Tryd.func43, Tryd.ntmps43
    go_wp2
    go_ret
    exact ⟨rfl, rfl⟩
  by_cases h13 : e = 13
  · subst h13
    obtain rfl : s = ⟨#[115, 121, 109, 116, 97, 98]⟩ := HS.out
    go_enter Tryd.func43, Tryd.ntmps43
    go_wp2
    go_ret
    exact ⟨rfl, rfl⟩
  by_cases h14 : e = 14
  · subst h14
    obtain rfl : s = ⟨#[111, 112, 99, 111, 100, 101]⟩ := HS.out
    go_enter Tryd.func43, Tryd.ntmps43
    go_wp2
    go_ret
    exact ⟨rfl, rfl⟩
  by_cases h15 : e = 15
  · subst h15
    obtain rfl : s = ⟨#[99, 104, 97, 105, 110]⟩ := HS.out
    go_enter Tryd.func43, Tryd.ntmps43
    go_wp2
    go_ret
    exact ⟨rfl, rfl⟩
  by_cases h16 : e = 16
  · subst h16
    obtain rfl : s = ⟨#[105, 109, 112, 111, 114, 116]⟩ := HS.out
    go_enter Tryd.func43, Tryd.ntmps43
    go_wp2
    go_ret
    exact ⟨rfl, rfl⟩
  by_cases h17 : e = 17
  · subst h17
    obtain rfl : s = ⟨#[109, 105, 115, 115, 105, 110, 103]⟩ := HS.out
    go_enter Tryd.func43, Tryd.ntmps43
    go_wp2
    go_ret
    exact ⟨rfl, rfl⟩
  by_cases h18 : e = 18
  · subst h18
    obtain rfl : s = ⟨#[115, 121, 109, 98, 111, 108]⟩ := HS.out
    go_enter Tryd.func43, Tryd.ntmps43
    go_wp2
    go_ret
    exact ⟨rfl, rfl⟩
  by_cases h19 : e = 19
  · subst h19
    obtain rfl : s = ⟨#[112, 114, 111, 116]⟩ := HS.out
    go_enter Tryd.func43, Tryd.ntmps43
    go_wp2
    go_ret
    exact ⟨rfl, rfl⟩
  by_cases h20 : e = 20
  · subst h20
    obtain rfl : s = ⟨#[114, 111, 111, 109]⟩ := HS.out
    go_enter Tryd.func43, Tryd.ntmps43
    go_wp2
    go_ret
    exact ⟨rfl, rfl⟩
  by_cases h21 : e = 21
  · subst h21
    obtain rfl : s = ⟨#[116, 119, 105, 99, 101]⟩ := HS.out
    go_enter Tryd.func43, Tryd.ntmps43
    go_wp2
    go_ret
    exact ⟨rfl, rfl⟩
  by_cases h22 : e = 22
  · subst h22
    obtain rfl : s = ⟨#[111, 114, 100, 105, 110, 97, 108]⟩ := HS.out
    go_enter Tryd.func43, Tryd.ntmps43
    go_wp2
    go_ret
    exact ⟨rfl, rfl⟩
  have d0 : (e == 0) = false := by rw [beq_eq_false_iff_ne]; exact h0
  have d1 : (e == 1) = false := by rw [beq_eq_false_iff_ne]; exact h1
  have d2 : (e == 2) = false := by rw [beq_eq_false_iff_ne]; exact h2
  have d3 : (e == 3) = false := by rw [beq_eq_false_iff_ne]; exact h3
  have d4 : (e == 4) = false := by rw [beq_eq_false_iff_ne]; exact h4
  have d5 : (e == 5) = false := by rw [beq_eq_false_iff_ne]; exact h5
  have d6 : (e == 6) = false := by rw [beq_eq_false_iff_ne]; exact h6
  have d7 : (e == 7) = false := by rw [beq_eq_false_iff_ne]; exact h7
  have d8 : (e == 8) = false := by rw [beq_eq_false_iff_ne]; exact h8
  have d9 : (e == 9) = false := by rw [beq_eq_false_iff_ne]; exact h9
  have d10 : (e == 10) = false := by rw [beq_eq_false_iff_ne]; exact h10
  have d11 : (e == 11) = false := by rw [beq_eq_false_iff_ne]; exact h11
  have d12 : (e == 12) = false := by rw [beq_eq_false_iff_ne]; exact h12
  have d13 : (e == 13) = false := by rw [beq_eq_false_iff_ne]; exact h13
  have d14 : (e == 14) = false := by rw [beq_eq_false_iff_ne]; exact h14
  have d15 : (e == 15) = false := by rw [beq_eq_false_iff_ne]; exact h15
  have d16 : (e == 16) = false := by rw [beq_eq_false_iff_ne]; exact h16
  have d17 : (e == 17) = false := by rw [beq_eq_false_iff_ne]; exact h17
  have d18 : (e == 18) = false := by rw [beq_eq_false_iff_ne]; exact h18
  have d19 : (e == 19) = false := by rw [beq_eq_false_iff_ne]; exact h19
  have d20 : (e == 20) = false := by rw [beq_eq_false_iff_ne]; exact h20
  have d21 : (e == 21) = false := by rw [beq_eq_false_iff_ne]; exact h21
  have d22 : (e == 22) = false := by rw [beq_eq_false_iff_ne]; exact h22
  obtain rfl : s = ⟨#[]⟩ := by rw [HS.out]; unfold wordB; rw [if_neg h0, if_neg h1, if_neg h2, if_neg h3, if_neg h4, if_neg h5, if_neg h6, if_neg h7, if_neg h8, if_neg h9, if_neg h10, if_neg h11, if_neg h12, if_neg h13, if_neg h14, if_neg h15, if_neg h16, if_neg h17, if_neg h18, if_neg h19, if_neg h20, if_neg h21, if_neg h22]
  clear HS h0 h1 h2 h3 h4 h5 h6 h7 h8 h9 h10 h11 h12 h13 h14 h15 h16 h17 h18 h19 h20 h21 h22
  go_enter Tryd.func43, Tryd.ntmps43
  go_wp2
  go_ret
  exact ⟨rfl, rfl⟩
theorem WErr_any (b : Nat) (at_ n : Int) (s : ByteArray) (w : World) (hb : w.heap[b]? = some (.cells #[.int .i64 at_, .int .i64 n] 57 (0, 0)))
    (hs : s.size ≤ 1000) (hI : ∀ w2, Chg [] w w2 → Calls Tryd.prog 63 #[.int .i64 at_] w2 fun e w' => e = .returned (.string s) ∧ Chg [] w2 w') :
    Calls Tryd.prog 41 #[.pointer (some ⟨b, 0, none⟩)] w fun e w' => e = .returned (.string (⟨#[97, 116, 32]⟩ ++ s ++ ⟨#[58, 32]⟩ ++ wordB n)) ∧ Chg [] w w' := by
  have HB := Lib.hid hb
  have HI := Lib.hid hI
  have hw := wordB_size n
  have z1 : ¬ (9223372036854775807 < 3 + s.size) := by omega
  have z2 : ¬ (9223372036854775807 < 3 + s.size + 2) := by omega
  have z3 : ¬ (9223372036854775807 < 3 + s.size + 2 + (wordB n).size) := by omega
  clear hb hI
  go_enter Tryd.func41, Tryd.ntmps41
  go_wp2_with fail
  refine wp_region_noPanic ?_
  refine wp_region_held_drew (S := fun w' => Chg [] w w') (by kernel_rfl) ((Chg.refl [] w).drew) (fun hHeld => ?_)
  refine take_read (i := 0) (v := ?_) (by simp only [List.getElem?_toArray, List.getElem?_cons_zero]; rfl) (by kernel_rfl) (by kernel_rfl) (by kernel_rfl) (fun _ _ _ h => h) hHeld ?_ ?_
  rotate_left
  · intro w hSw
    go_simp
    try with_reducible rfl
  try simp only [Act.put, List.setIfInBounds_toArray, List.set_cons_zero, List.set_cons_succ]
  refine take_read (i := 1) (v := ?_) (by simp only [List.getElem?_toArray, List.getElem?_cons_succ, List.getElem?_cons_zero]; rfl) (by kernel_rfl) (by kernel_rfl) (by kernel_rfl) (fun _ _ _ h => h) hHeld ?_ ?_
  rotate_left
  · intro w hSw
    go_simp
    try with_reducible rfl
  try simp only [Act.put, List.setIfInBounds_toArray, List.set_cons_zero, List.set_cons_succ]
  refine take_read (i := 2) (v := ?_) (by simp only [List.getElem?_toArray, List.getElem?_cons_succ, List.getElem?_cons_zero]; rfl) (by kernel_rfl) (by kernel_rfl) (by kernel_rfl) (fun _ _ _ h => h) hHeld ?_ ?_
  rotate_left
  · intro w hSw
    go_simp
    try with_reducible rfl
  try simp only [Act.put, List.setIfInBounds_toArray, List.set_cons_zero, List.set_cons_succ]
  refine take_read (i := 3) (v := ?_) (by simp only [List.getElem?_toArray, List.getElem?_cons_succ, List.getElem?_cons_zero]; rfl) (by kernel_rfl) (by kernel_rfl) (by kernel_rfl) (fun _ _ _ h => h) hHeld ?_ ?_
  rotate_left
  · intro w hSw
    have hcl := cell_of_heap (hSw.heap HB.out (by simp)) 0; simp at hcl
    go_simp
    try with_reducible rfl
  try simp only [Act.put, List.setIfInBounds_toArray, List.set_cons_zero, List.set_cons_succ]
  refine take_read (i := 7) (v := ?_) (by simp only [List.getElem?_toArray, List.getElem?_cons_succ, List.getElem?_cons_zero]; rfl) (by kernel_rfl) (by kernel_rfl) (by kernel_rfl) (fun _ _ _ h => h) hHeld ?_ ?_
  rotate_left
  · intro w hSw
    go_simp
    try with_reducible rfl
  try simp only [Act.put, List.setIfInBounds_toArray, List.set_cons_zero, List.set_cons_succ]
  refine take_read (i := 8) (v := ?_) (by simp only [List.getElem?_toArray, List.getElem?_cons_succ, List.getElem?_cons_zero]; rfl) (by kernel_rfl) (by kernel_rfl) (by kernel_rfl) (fun _ _ _ h => h) hHeld ?_ ?_
  rotate_left
  · intro w hSw
    go_simp
    try with_reducible rfl
  try simp only [Act.put, List.setIfInBounds_toArray, List.set_cons_zero, List.set_cons_succ]
  refine take_read (i := 9) (v := ?_) (by simp only [List.getElem?_toArray, List.getElem?_cons_succ, List.getElem?_cons_zero]; rfl) (by kernel_rfl) (by kernel_rfl) (by kernel_rfl) (fun _ _ _ h => h) hHeld ?_ ?_
  rotate_left
  · intro w hSw
    go_simp
    try with_reducible rfl
  try simp only [Act.put, List.setIfInBounds_toArray, List.set_cons_zero, List.set_cons_succ]
  refine take_read (i := 10) (v := ?_) (by simp only [List.getElem?_toArray, List.getElem?_cons_succ, List.getElem?_cons_zero]; rfl) (by kernel_rfl) (by kernel_rfl) (by kernel_rfl) (fun _ _ _ h => h) hHeld ?_ ?_
  rotate_left
  · intro w hSw
    have hcl := cell_of_heap (hSw.heap HB.out (by simp)) 1; simp at hcl
    go_simp
    try with_reducible rfl
  try simp only [Act.put, List.setIfInBounds_toArray, List.set_cons_zero, List.set_cons_succ]
  refine wpAnyH_ready (rs := [4]) (by kernel_rfl) (by simp) ?_
  refine AllReadyH.cons rfl (fun K hK => ?_) AllReadyH.nil
  go_simp
  refine (HI.out _ ((Chg.refl [] w).drew)).mono ?_
  rintro e w4 ⟨rfl, hch⟩
  have HK := Lib.hid (((Chg.refl [] w).drew).then hch)
  clear hch
  refine hK.out _ _ HK.out (fun _ => ?_)
  clear hK hHeld K
  have hHeld := HK.out
  try simp only [Act.put, List.setIfInBounds_toArray, List.set_cons_zero, List.set_cons_succ]
  refine take_read (i := 5) (v := ?_) (by simp only [List.getElem?_toArray, List.getElem?_cons_succ, List.getElem?_cons_zero]; rfl) (by kernel_rfl) (by kernel_rfl) (by kernel_rfl) (fun _ _ _ h => h) hHeld ?_ ?_
  rotate_left
  · intro w hSw
    go_simp
    try with_reducible rfl
  try simp only [Act.put, List.setIfInBounds_toArray, List.set_cons_zero, List.set_cons_succ]
  refine take_read (i := 6) (v := ?_) (by simp only [List.getElem?_toArray, List.getElem?_cons_succ, List.getElem?_cons_zero]; rfl) (by kernel_rfl) (by kernel_rfl) (by kernel_rfl) (fun _ _ _ h => h) hHeld ?_ ?_
  rotate_left
  · intro w hSw
    go_simp
    try with_reducible rfl
  try simp only [Act.put, List.setIfInBounds_toArray, List.set_cons_zero, List.set_cons_succ]
  refine wpAnyH_ready (rs := [11]) (by kernel_rfl) (by simp) ?_
  refine AllReadyH.cons rfl (fun K hK => ?_) AllReadyH.nil
  go_simp
  refine (Word_any n _).mono ?_
  rintro e w5 ⟨rfl, rfl⟩
  refine hK.out _ _ HK.out (fun _ => ?_)
  clear hK hHeld K
  have hHeld := HK.out
  try simp only [Act.put, List.setIfInBounds_toArray, List.set_cons_zero, List.set_cons_succ]
  refine take_read (i := 12) (v := ?_) (by simp only [List.getElem?_toArray, List.getElem?_cons_succ, List.getElem?_cons_zero]; rfl) (by kernel_rfl) (by kernel_rfl) (by kernel_rfl) (fun _ _ _ h => h) hHeld ?_ ?_
  rotate_left
  · intro w hSw
    go_simp
    try with_reducible rfl
  try simp only [Act.put, List.setIfInBounds_toArray, List.set_cons_zero, List.set_cons_succ]
  refine take_read (i := 13) (v := ?_) (by simp only [List.getElem?_toArray, List.getElem?_cons_succ, List.getElem?_cons_zero]; rfl) (by kernel_rfl) (by kernel_rfl) (by kernel_rfl) (fun _ _ _ h => h) hHeld ?_ ?_
  rotate_left
  · intro w hSw
    go_simp
    try with_reducible rfl
  try simp only [Act.put, List.setIfInBounds_toArray, List.set_cons_zero, List.set_cons_succ]
  refine wpAnyH_done (by kernel_rfl) ?_ _
  refine NoPanic.normal ?_
  go_wp2
  go_ret
  exact ⟨rfl, HK.out⟩
end Go.Proofs.YtpodphfdoonidaaDoor
