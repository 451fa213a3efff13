/- Plain: a made fat file reads as its parts. -/
import Derived.Test.YtchkombikjcokaaDoorFatA
import Derived.Test.YtchkombikjcokaaDoorFSl
namespace Go.Proofs.YtchkombikjcokaaDoor
open Go.RowKit
set_option maxRecDepth 100000

theorem ents_split (wide : Bool) (e : Nat) (ms : List Mem) (n i : Nat) (h : i < n) : ∃ r, entsL wide e ms n = entsL wide e ms i ++ (entL wide (slOf e ms i) ++ r) := by
  refine ⟨((sls e ms n).drop (i + 1)).flatMap (entL wide), ?_⟩
  have e1 : sls e ms n = sls e ms (i + 1) ++ (sls e ms n).drop (i + 1) := by
    conv => lhs; rw [← List.take_append_drop (i + 1) (sls e ms n), sls_take _ _ _ _ (show i + 1 ≤ n by omega)]
  unfold entsL
  conv => lhs; rw [e1, List.flatMap_append, sls_succ, List.flatMap_append]
  simp
theorem body_split (e : Nat) (ms : List Mem) (k : Nat) : ∀ j, k + j ≤ ms.length → ∃ r, bodyL e (ms.take (k + j)) = bodyL e (ms.take k) ++ r
  | 0, _ => ⟨[], by simp⟩
  | j + 1, h => by
    obtain ⟨r, hr⟩ := body_split e ms k j (by omega)
    refine ⟨(r ++ zerosL (placeOf e ms (k + j) - atL e (ms.take (k + j)))) ++ (ms.getD (k + j) .zero).bytes, ?_⟩
    rw [← Nat.add_assoc, bodyL_take e ms (k + j) (by omega), hr]
    simp only [List.append_assoc]
theorem fat_bytes (wide : Bool) (ms : List Mem) (k : Nat) (h : k < ms.length) :
    ((fatL wide ms).drop (placeOf (endOf wide ms) ms k)).take (ms.getD k .zero).bytes.length = (ms.getD k .zero).bytes := by
  obtain ⟨r, hr⟩ := body_split (endOf wide ms) ms (k + 1) (ms.length - (k + 1)) (by omega)
  rw [show k + 1 + (ms.length - (k + 1)) = ms.length by omega, List.take_length, bodyL_take _ _ _ h] at hr
  have e1 : fatL wide ms = (headF wide ms.length ++ entsL wide (endOf wide ms) ms ms.length ++ (bodyL (endOf wide ms) (ms.take k) ++ zerosL (placeOf (endOf wide ms) ms k - atL (endOf wide ms) (ms.take k)))) ++ ((ms.getD k .zero).bytes ++ r) := by
    unfold fatL; rw [hr]; simp only [List.append_assoc]
  have h1 := bodyL_atk (endOf wide ms) ms k (by omega)
  have h2 := (atL_mono (endOf wide ms) ms k h).1
  have e2 : (headF wide ms.length ++ entsL wide (endOf wide ms) ms ms.length ++ (bodyL (endOf wide ms) (ms.take k) ++ zerosL (placeOf (endOf wide ms) ms k - atL (endOf wide ms) (ms.take k)))).length = placeOf (endOf wide ms) ms k := by
    simp only [List.length_append, headF_len, entsL_len, zerosL, List.length_replicate]
    have : endOf wide ms = 8 + ms.length * esz wide := rfl
    omega
  rw [e1, List.drop_left' e2, List.take_left' rfl]
theorem fat_magic (wide : Bool) (ms : List Mem) : magic (fatL wide ms) = magN wide := by
  have := num_at (fatL wide ms) [] (magN wide) 0 4 ⟨bgL ms.length 4 ++ (entsL wide (endOf wide ms) ms ms.length ++ bodyL (endOf wide ms) ms), by unfold fatL headF; simp only [List.append_assoc, List.nil_append]⟩ rfl (by cases wide <;> decide)
  unfold num at this
  rwa [List.drop_zero] at this
theorem fat_many (wide : Bool) (ms : List Mem) (h : ms.length ≤ 1000) : num (fatL wide ms) 4 4 = ms.length :=
  num_at (fatL wide ms) (bgL (magN wide) 4) ms.length 4 4 ⟨entsL wide (endOf wide ms) ms ms.length ++ bodyL (endOf wide ms) ms, by unfold fatL headF; simp only [List.append_assoc]⟩ (bgL_len _ _) (by omega)
theorem fat_entries (wide : Bool) (ms : List Mem) (hok : ∀ m ∈ ms, m.ok) (hal : ∀ m ∈ ms, alB m = true) (hat : atL (endOf wide ms) ms ≤ 1048576) :
    entries (fatL wide ms) (esz wide) (wdt wide) ms.length = sls (endOf wide ms) ms ms.length := by
  unfold entries sls
  refine List.map_congr_left fun i hi => ?_
  rw [List.mem_range] at hi
  obtain ⟨r, hr⟩ := ents_split wide (endOf wide ms) ms ms.length i hi
  obtain ⟨h1, h2, _, _⟩ := hok _ (mem_getD hi)
  have hsl := slOf_ok (endOf wide ms) ms ms.length i (Nat.le_refl _) hi hok (by rw [List.take_length]; exact hat)
  have h3 := atL_take (endOf wide ms) ms i hi
  have h4 := atL_le (endOf wide ms) ms (i + 1) (ms.length - (i + 1)) (by omega)
  rw [show i + 1 + (ms.length - (i + 1)) = ms.length by omega, List.take_length] at h4
  have ha := alignN_le (hal _ (mem_getD hi))
  refine entry_at wide (fatL wide ms) (headF wide ms.length ++ entsL wide (endOf wide ms) ms i) (r ++ bodyL (endOf wide ms) ms) _ _ ?_ ?_ h1 h2 (by show placeOf _ _ _ < _; omega) (by show (ms.getD i .zero).bytes.length < _; omega) (by show 0 ≤ (ms.getD i .zero).align ∧ (ms.getD i .zero).align ≤ 15; omega)
  · unfold fatL; rw [hr]; simp only [List.append_assoc]
  · rw [List.length_append, headF_len, entsL_len]
theorem fat_may (wide : Bool) (ms : List Mem) (hal : ∀ m ∈ ms, alB m = true) (k : Nat) (h : k < ms.length) :
    mayS (slOf (endOf wide ms) ms k) (alignN (ms.getD k .zero)) (8 + ms.length * esz wide) (atL (endOf wide ms) ms) = true := by
  have h3 := atL_take (endOf wide ms) ms k h
  have h4 := atL_le (endOf wide ms) ms (k + 1) (ms.length - (k + 1)) (by omega)
  rw [show k + 1 + (ms.length - (k + 1)) = ms.length by omega, List.take_length] at h4
  have h5 := atL_ge (endOf wide ms) ms k (by omega)
  have h6 := (atL_mono (endOf wide ms) ms k h).1
  have ha := alignN_le (hal _ (mem_getD h))
  have hm := padTo_mod (atL (endOf wide ms) (ms.take k)) (alignN (ms.getD k .zero))
  unfold mayS
  simp only [Bool.and_eq_true, decide_eq_true_eq]
  refine ⟨⟨⟨ha.1, ?_⟩, hm⟩, ?_⟩
  · show 8 + ms.length * esz wide ≤ placeOf _ _ _
    have : endOf wide ms = 8 + ms.length * esz wide := rfl
    omega
  · show placeOf _ _ _ + (ms.getD k .zero).bytes.length ≤ _
    omega
theorem fat_entE (wide : Bool) (ms : List Mem) (hok : ∀ m ∈ ms, m.ok) (hal : ∀ m ∈ ms, alB m = true) (hn : ms.length ≤ 32) (hat : atL (endOf wide ms) ms ≤ 1048576) :
    entE (fatL wide ms) (esz wide) (wdt wide) apE = if anyM ms ms.length = true then 21 else 0 := by
  have h1 := atL_ge (endOf wide ms) ms ms.length (Nat.le_refl _)
  rw [List.take_length] at h1
  have h2 : endOf wide ms = 8 + ms.length * esz wide := rfl
  unfold entE
  rw [fatL_len, fat_many wide ms (by omega), if_neg (by omega), if_neg (by omega), if_neg (by omega), if_pos, fat_entries wide ms hok hal hat, apE_sls]
  unfold maysB
  rw [fat_entries wide ms hok hal hat, List.all_eq_true]
  intro s hs
  obtain ⟨k, hk, rfl⟩ := List.mem_map.1 hs
  rw [List.mem_range] at hk
  rw [fatL_len]
  exact fat_may wide ms hal k hk
theorem fat_reads (wide : Bool) (ms : List Mem) (hok : ∀ m ∈ ms, m.ok) (h : fatE wide ms = 0) :
    sliceE (fatL wide ms) = 0 ∧ sliceL (fatL wide ms) = sls (endOf wide ms) ms ms.length ∧ (∀ m ∈ ms, alB m = true) ∧ ms.length ≤ 32 ∧ atL (endOf wide ms) ms ≤ 1048576 := by
  unfold fatE at h
  split at h
  · cases h
  rename_i h1
  split at h
  · cases h
  split at h
  · cases h
  rename_i h3
  split at h
  · cases h
  rename_i h4
  have hal : ∀ m ∈ ms, alB m = true := List.all_eq_true.1 (by simpa using h1)
  have hn : ms.length ≤ 32 := by omega
  have hat : atL (endOf wide ms) ms ≤ 1048576 := by omega
  have he := fat_entE wide ms hok hal hn hat
  rw [if_neg h4] at he
  have hm := fat_magic wide ms
  have hl := fatL_len wide ms
  have h5 := atL_ge (endOf wide ms) ms ms.length (Nat.le_refl _)
  rw [List.take_length] at h5
  have h6 : endOf wide ms = 8 + ms.length * esz wide := rfl
  have hen := fat_entries wide ms hok hal hat
  have hmn := fat_many wide ms (by omega)
  refine ⟨?_, ?_, hal, hn, hat⟩
  · unfold sliceE
    rw [if_neg (by omega), if_neg (by omega), hm]
    cases wide
    · exact he
    · exact he
  · unfold sliceL
    rw [hm, hmn]
    cases wide
    · exact hen
    · exact hen
end Go.Proofs.YtchkombikjcokaaDoor
