/- clevislaw04.few; a made file that is cut short. -/
import Derived.Test.YtchkombikjcokaaDoorCRMake
import Derived.Test.YtchkombikjcokaaDoorReadBad
import Derived.Test.YtchkombikjcokaaDoorCommandLong
namespace Go.Proofs.YtchkombikjcokaaDoor
open Go.RowKit
set_option maxRecDepth 100000

/-- Are there few commands, of few bytes? -/
def fewC (cs : List Cmd) (most : Nat) : Bool := (cs.all fun c => decide (c.2.length ≤ 2000)) && decide (cs.length ≤ most)
theorem catL_few {cs : List Cmd} {M : Nat} (h : ∀ c ∈ cs, c.2.length ≤ M) : (catL cs).length ≤ cs.length * M := by
  unfold catL
  induction cs with
  | nil => simp
  | cons c r ih =>
    simp only [List.flatMap_cons, List.length_append, List.length_cons, Nat.add_mul, Nat.one_mul]
    have := ih (fun x hx => h x (List.mem_cons_of_mem _ hx))
    have := h c (List.mem_cons_self ..)
    omega
theorem fewC_len {cs : List Cmd} {most : Nat} (h : fewC cs most = true) : cs.length ≤ most ∧ ∀ c ∈ cs, c.2.length ≤ 2000 := by
  unfold fewC at h
  rw [Bool.and_eq_true, decide_eq_true_iff, List.all_eq_true] at h
  exact ⟨h.2, fun m hm => by simpa using h.1 m hm⟩
theorem fewC_any (cs : List Cmd) (most : Nat) (a : Option Addr) (cap : Nat) (w : World) (rd : CmdRd w (.slice a cs.length cap) cs) :
    Calls Tryd.prog 27 #[.slice a cs.length cap, .int .i64 most] w fun e w' => e = .returned (.bool (fewC cs most)) ∧ w' = w := by
  obtain ⟨_, _, _, he, _, hc1, hc2, hx⟩ := rd
  cases he
  unfold maxLen at hc2
  have Hx := Lib.hid hx
  clear hx
  go_enter Tryd.func27, Tryd.ntmps27
  go_wp2_with fail
  go_loop [5] (fun s5 => ∃ k : Nat, k ≤ cs.length ∧ s5 = .int .i64 (k : Int) ∧ (∀ c ∈ cs.take k, c.2.length ≤ 2000)) (fun s5 => cs.length - (intOf s5).toNat)
  case atStart => exact ⟨0, Nat.zero_le _, rfl, by simp⟩
  case round =>
    obtain ⟨k, hk, rfl, hal⟩ := hrel
    have Hal := Lib.hid hal
    clear hal
    by_cases hlt : k < cs.length
    · obtain ⟨b, off, rfl, hb0, hcell⟩ := Hx.out (by rintro rfl; simp at hlt)
      obtain ⟨_, a', cap', k4, _⟩ := hcell k hlt
      obtain ⟨p, hp⟩ : ∃ p, p = cs.getD k (0, []) := ⟨_, rfl⟩
      rw [← hp] at k4
      have HMEM : Hid (p ∈ cs) := Lib.hid (by rw [hp]; simp [List.getD_eq_getElem?_getD, hlt])
      have HCK : Hid (cs.take (k + 1) = cs.take k ++ [p]) := Lib.hid (by rw [List.take_succ_eq_append_getElem hlt, hp]; simp [List.getD_eq_getElem?_getD, hlt])
      clear hcell hb0 hp
      by_cases hl : p.2.length ≤ 2000
      · have HA1 : Hid (∀ m ∈ cs.take (k + 1), m.2.length ≤ 2000) := by
          refine Lib.hid ?_
          rw [HCK.out]
          intro m hm
          rw [List.mem_append, List.mem_singleton] at hm
          rcases hm with hm | rfl
          · exact Hal.out m hm
          · exact hl
        have d1 : decide ((2000 : Int) < (p.2.length : Int)) = false := by simp; omega
        go_wp2
        go_round
        case rel => exact ⟨k + 1, hlt, by go_num, HA1.out⟩
        case measure => simp [intOf]; omega
      · have d1 : decide ((2000 : Int) < (p.2.length : Int)) = true := by simp; omega
        have HF : Hid (fewC cs most = false) := by
          refine Lib.hid ?_
          unfold fewC
          rw [Bool.and_eq_false_iff]
          left
          rw [List.all_eq_false]
          exact ⟨p, HMEM.out, by simpa using hl⟩
        clear hl
        go_wp2
        go_ret
        rw [HF.out]
        exact ⟨rfl, rfl⟩
    · obtain rfl : k = cs.length := by omega
      rw [List.take_length] at Hal
      have HF : Hid (fewC cs most = decide (cs.length ≤ most)) := by
        refine Lib.hid ?_
        unfold fewC
        rw [List.all_eq_true.2 (fun m hm => by simpa using Hal.out m hm), Bool.true_and]
      go_wp2
      go_ret
      rw [HF.out]
      exact ⟨rfl, rfl⟩

theorem nL_take (l : List UInt8) (n p : Nat) (h : p + 4 ≤ n) : nL (l.take n) p = nL l p := by
  unfold nL
  rw [List.drop_take, List.take_take, Nat.min_eq_left (by omega)]
theorem nL_words (ws : List Nat) (X : List UInt8) (i : Nat) (hi : i < ws.length) (hw : ∀ n ∈ ws, n < 4294967296) : nL (headL ws ++ X) (4 * i) = ws.getD i 0 := by
  induction ws generalizing i with
  | nil => simp at hi
  | cons a r ih =>
    have e : headL (a :: r) ++ X = le4 a ++ (headL r ++ X) := by simp [headL]
    rw [e]
    cases i with
    | zero =>
      unfold nL
      rw [Nat.mul_zero, List.drop_zero, List.take_left' (show (le4 a).length = 4 from rfl), leNum_le4 a (hw a (List.mem_cons_self ..))]
      rfl
    | succ i =>
      have : nL (le4 a ++ (headL r ++ X)) (4 * (i + 1)) = nL (headL r ++ X) (4 * i) := by
        unfold nL
        rw [show 4 * (i + 1) = 4 + 4 * i by omega, ← List.drop_drop, List.drop_left' (show (le4 a).length = 4 from rfl)]
      rw [this, ih i (by simpa using hi) (fun n hn => hw n (List.mem_cons_of_mem _ hn))]
      rfl
/-- Of a made file that is cut short there is no header. -/
theorem head_short (sub kind fl : Nat) (hfl : fl < 4294967296) (cs : List Cmd) (h : makeE sub kind cs = 0) (n : Nat) (hn : n < (makeL sub kind fl cs).length) : headE ((makeL sub kind fl cs).take n) = 3 := by
  have hk : kindB sub kind = true ∧ cs.length ≤ 256 ∧ 32 + (catL cs).length ≤ 1048576 := by
    unfold makeE at h
    split at h
    · cases h
    rename_i h1
    split at h
    · cases h
    split at h
    · cases h
    rename_i h3
    exact ⟨by simpa using h1, by omega, by omega⟩
  obtain ⟨hkb, hc, hl⟩ := hk
  have hk' : (sub = 0 ∨ sub = 2) ∧ (kind = 2 ∨ kind = 6) := by
    have : ((sub : Int) = 0 ∨ (sub : Int) = 2) ∧ ((kind : Int) = 2 ∨ (kind : Int) = 6) := by simpa [kindB] using hkb
    omega
  rw [makeL_len] at hn
  have hlen : ((makeL sub kind fl cs).take n).length = n := by rw [List.length_take, makeL_len]; omega
  unfold headE
  rw [hlen]
  by_cases h32 : n < 32
  · rw [if_pos h32]
  · have hw : ∀ m ∈ words sub kind fl cs, m < 4294967296 := by
      intro m hm
      simp only [words, List.mem_cons, List.not_mem_nil, or_false] at hm
      omega
    have key : ∀ i, i < 8 → nL ((makeL sub kind fl cs).take n) (4 * i) = (words sub kind fl cs).getD i 0 := fun i hi => by
      rw [nL_take _ _ _ (by omega)]
      exact nL_words _ _ i hi hw
    have k0 := key 0 (by decide)
    have k1 := key 1 (by decide)
    have k2 := key 2 (by decide)
    have k3 := key 3 (by decide)
    have k4 := key 4 (by decide)
    have k5 := key 5 (by decide)
    have hsub : hdSub ((makeL sub kind fl cs).take n) = sub := by
      unfold hdSub
      rw [show (8 : Nat) = 4 * 2 from rfl, k2]
      show sub % 16777216 = sub
      omega
    rw [if_neg h32, show nL ((makeL sub kind fl cs).take n) 0 = 4277009103 from k0, show nL ((makeL sub kind fl cs).take n) 4 = 16777228 from k1, show nL ((makeL sub kind fl cs).take n) 12 = kind from k3, show nL ((makeL sub kind fl cs).take n) 16 = cs.length from k4,
      show nL ((makeL sub kind fl cs).take n) 20 = (catL cs).length from k5, hsub, if_neg (by decide), if_neg (by decide), if_neg (by rw [hkb]; decide), if_neg (by omega), if_pos (by omega)]
end Go.Proofs.YtchkombikjcokaaDoor
