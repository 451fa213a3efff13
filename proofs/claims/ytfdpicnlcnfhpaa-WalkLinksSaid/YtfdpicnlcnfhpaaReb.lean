/- The document's rebase and bind of a link; says.fix. -/
import Derived.Test.YtfdpicnlcnfhpaaBits
import Derived.Test.YtfdpicnlcnfhpaaRecFx
import Derived.Test.YtfdpicnlcnfhpaaRecImp
namespace Go.Proofs.Ytfdpicnlcnfhpaa
open Go.RowKit
set_option maxRecDepth 100000

def pow56 : Nat := 72057594037927936
theorem pow56_eq : (2 : Nat) ^ 56 = pow56 := by decide
def m64 : Nat := 18446744073709551616
/-- A fixup as a value. -/
abbrev fixV (at_ kind tgt ord : Int) (sym : ByteArray) (add : Int) (weak : Bool) : Value := .agg #[.int .u64 at_, .int .i64 kind, .int .u64 tgt, .int .i64 ord, .string sym, .int .i64 add, .bool weak]
/-- The target of a rebase, above something, with a highest byte. -/
def tgt (t a h : Nat) : Nat := (t + a) % m64 % pow56 + h * pow56

theorem rebase_any (t a h : Nat) (hh : h < 256) (w : World) :
    Calls Try.prog 13 #[.int .u64 t, .int .u64 a, .int .u64 h] w fun e w' => e = .returned (fixV 0 1 (tgt t a h) 0 ⟨#[]⟩ 0 false) ∧ Chg [] w w' := by
  obtain ⟨P, hP⟩ : ∃ P, P = pow56 := ⟨_, rfl⟩
  obtain ⟨s, hs⟩ : ∃ s, s = (t + a) % m64 := ⟨_, rfl⟩
  obtain ⟨T, hT⟩ : ∃ T, T = tgt t a h := ⟨_, rfl⟩
  have hpow : ∀ w, Calls Try.prog 14 #[.int .i64 56] w fun e w' => e = .returned (.int .u64 (P : Int)) ∧ w = w' := fun w => by
    have := power_any 56 (by decide) w
    rw [pow56_eq, ← hP] at this
    exact this
  have w1 : IntKind.u64.wrap ((t : Int) + (a : Int)) = (s : Int) := by rw [IntKind.wrap_u64, hs]; unfold m64; omega
  have w2 : (s : Int).tmod (P : Int) = ((s % P : Nat) : Int) := by rw [Int.tmod_eq_emod_of_nonneg (by omega), Int.natCast_emod]
  have w3 : IntKind.u64.wrap ((h : Int) * (P : Int)) = ((h * P : Nat) : Int) := by rw [IntKind.wrap_u64, hP]; unfold pow56; omega
  have w4 : IntKind.u64.wrap (((s % P : Nat) : Int) + ((h * P : Nat) : Int)) = (T : Int) := by rw [IntKind.wrap_u64, hT, hP, hs]; unfold tgt pow56 m64; omega
  have hP0 : ¬ P = 0 := by rw [hP]; decide
  rw [← hT]
  generalize s % P = u at w2 w4
  generalize h * P = v at w3 w4
  have Hpow := Lib.hid hpow
  clear hpow
  clear hP hs hT hh
  go_enter Try.func13, Try.ntmps13
  go_wp2_with fail
  refine wp_region_noPanic ?_
  refine wp_region_held_drew (S := fun _ => True) (by kernel_rfl) trivial (fun hHeld => ?_)
  refine take_read (i := 0) (v := ?_) (by simp only [List.getElem?_toArray, List.getElem?_cons_zero]; rfl) (by kernel_rfl) (by kernel_rfl) (by kernel_rfl) (fun _ _ _ h => h) hHeld ?_ ?_
  rotate_left
  · intro w hSw
    go_simp
    try with_reducible rfl
  try simp only [Act.put, List.setIfInBounds_toArray, List.set_cons_zero, List.set_cons_succ]
  refine take_read (i := 1) (v := ?_) (by simp only [List.getElem?_toArray, List.getElem?_cons_succ, List.getElem?_cons_zero]; rfl) (by kernel_rfl) (by kernel_rfl) (by kernel_rfl) (fun _ _ _ h => h) hHeld ?_ ?_
  rotate_left
  · intro w hSw
    go_simp
    try with_reducible rfl
  try simp only [Act.put, List.setIfInBounds_toArray, List.set_cons_zero, List.set_cons_succ]
  refine take_read (i := 2) (v := ?_) (by simp only [List.getElem?_toArray, List.getElem?_cons_succ, List.getElem?_cons_zero]; rfl) (by kernel_rfl) (by kernel_rfl) (by kernel_rfl) (fun _ _ _ h => h) hHeld ?_ ?_
  rotate_left
  · intro w hSw
    go_simp
    try with_reducible rfl
  try simp only [Act.put, List.setIfInBounds_toArray, List.set_cons_zero, List.set_cons_succ]
  refine take_read (i := 5) (v := ?_) (by simp only [List.getElem?_toArray, List.getElem?_cons_succ, List.getElem?_cons_zero]; rfl) (by kernel_rfl) (by kernel_rfl) (by kernel_rfl) (fun _ _ _ h => h) hHeld ?_ ?_
  rotate_left
  · intro w hSw
    go_simp
    try with_reducible rfl
  try simp only [Act.put, List.setIfInBounds_toArray, List.set_cons_zero, List.set_cons_succ]
  refine wpAnyH_ready (rs := [3]) (by kernel_rfl) (by simp) ?_
  refine AllReadyH.cons rfl (fun K hK => ?_) AllReadyH.nil
  go_simp
  refine (Hpow.out _).mono ?_
  rintro e w1 ⟨rfl, rfl⟩
  refine hK.out _ _ trivial (fun hHeld2 => ?_)
  clear hK hHeld K
  have hHeld := hHeld2
  clear hHeld2
  try (unfold Act.put; simp only [List.setIfInBounds_toArray, List.set_cons_zero, List.set_cons_succ])
  refine take_read (i := 4) (v := ?_) (by simp only [List.getElem?_toArray, List.getElem?_cons_succ, List.getElem?_cons_zero]; rfl) (by kernel_rfl) (by kernel_rfl) (by kernel_rfl) (fun _ _ _ h => h) hHeld ?_ ?_
  rotate_left
  · intro w hSw
    go_simp
    try with_reducible rfl
  try simp only [Act.put, List.setIfInBounds_toArray, List.set_cons_zero, List.set_cons_succ]
  refine wpAnyH_ready (rs := [6]) (by kernel_rfl) (by simp) ?_
  refine AllReadyH.cons rfl (fun K hK => ?_) AllReadyH.nil
  go_simp
  refine (Hpow.out _).mono ?_
  rintro e w1 ⟨rfl, rfl⟩
  refine hK.out _ _ trivial (fun hHeld2 => ?_)
  clear hK hHeld K
  have hHeld := hHeld2
  clear hHeld2
  try (unfold Act.put; simp only [List.setIfInBounds_toArray, List.set_cons_zero, List.set_cons_succ])
  refine take_read (i := 7) (v := ?_) (by simp only [List.getElem?_toArray, List.getElem?_cons_succ, List.getElem?_cons_zero]; rfl) (by kernel_rfl) (by kernel_rfl) (by kernel_rfl) (fun _ _ _ h => h) hHeld ?_ ?_
  rotate_left
  · intro w hSw
    go_simp
    try with_reducible rfl
  try simp only [Act.put, List.setIfInBounds_toArray, List.set_cons_zero, List.set_cons_succ]
  refine take_read (i := 8) (v := ?_) (by simp only [List.getElem?_toArray, List.getElem?_cons_succ, List.getElem?_cons_zero]; rfl) (by kernel_rfl) (by kernel_rfl) (by kernel_rfl) (fun _ _ _ h => h) hHeld ?_ ?_
  rotate_left
  · intro w hSw
    go_simp
    try with_reducible rfl
  try simp only [Act.put, List.setIfInBounds_toArray, List.set_cons_zero, List.set_cons_succ]
  refine take_read (i := 9) (v := ?_) (by simp only [List.getElem?_toArray, List.getElem?_cons_succ, List.getElem?_cons_zero]; rfl) (by kernel_rfl) (by kernel_rfl) (by kernel_rfl) (fun _ _ _ h => h) hHeld ?_ ?_
  rotate_left
  · intro w hSw
    go_simp
    try with_reducible rfl
  try simp only [Act.put, List.setIfInBounds_toArray, List.set_cons_zero, List.set_cons_succ]
  refine wpAnyH_ready (rs := [10]) (by kernel_rfl) (by simp) ?_
  refine AllReadyH.cons rfl (fun K hK => ?_) AllReadyH.nil
  go_simp
  refine hK.out _ _ trivial (fun hHeld2 => ?_)
  clear hK hHeld K
  have hHeld := hHeld2
  clear hHeld2
  try (unfold Act.put; simp only [List.setIfInBounds_toArray, List.set_cons_zero, List.set_cons_succ])
  refine wpAnyH_done (by kernel_rfl) ?_ _
  refine NoPanic.normal ?_
  go_wp2
  obtain ⟨g0, g1, g2, g3, g4, g5, g6⟩ := Fx.at0 ((Fx.boxed w ⟨0, 1, T, 0, ⟨#[]⟩, 0, false⟩ 36).frame ((Chg.refl [] _).drew))
  refine bodyPost_ret (v := fixV 0 1 T 0 ⟨#[]⟩ 0 false) (by simp [results, Try.results13, go_sem, g0, g1, g2, g3, g4, g5, g6]) rfl ?_
  exact ⟨rfl, ((Chg.refl _ _).alloc _).drew⟩
end Go.Proofs.Ytfdpicnlcnfhpaa
