/- Plain: a head that was laid, read back: its words, its imports, their names. No program in sight. -/
import Derived.Test.YtkclmknepbbhnaaDoorCMk
import Derived.Test.YtkclmknepbbhnaaDoorShort
import Derived.Test.YtkclmknepbbhnaaDoorTextP
import Derived.Test.YtkclmknepbbhnaaDoorNeed
namespace Go.Proofs.YtkclmknepbbhnaaDoor
open Go.RowKit
set_option maxRecDepth 100000

theorem leNum_leB (n : Nat) : ∀ k, leNum (leB n k) = n % 256 ^ k
  | 0 => by simp [leB, leNum, Nat.mod_one]
  | k + 1 => by
    rw [leB_succ, leNum_snoc, leNum_leB n k, leB_len, Nat.pow_succ, Nat.mod_mul]
    congr 1
    rw [UInt8.toNat_ofNat', Nat.pow_mul, Nat.mul_comm]
/-- The number of so many bytes at a place. -/
def WN (B : List UInt8) (p k : Nat) : Nat := leNum ((B.drop p).take k)
def cs (B : List UInt8) (p : Nat) : CS := ⟨B, p, false, false⟩
theorem canT {B : List UInt8} {p k : Nat} (h : p + k ≤ B.length) : canTake (cs B p) k = true := canTake_of rfl (by omega) (by show (k : Int) ≤ (B.length : Int) - (p : Int); omega)
theorem numV {B : List UInt8} {p k : Nat} (hk : okSize k = true) (h : p + k ≤ B.length) : numberV (cs B p) k = WN B p k := by
  unfold numberV
  rw [hk, if_pos rfl, takeL_list (canT h)]
  rfl
theorem numS {B : List UInt8} {p k : Nat} (hk : okSize k = true) (h : p + k ≤ B.length) : numberS (cs B p) k = cs B (p + k) := by
  unfold numberS takeS
  rw [hk, if_pos rfl, canT h, if_pos rfl]
  rfl
theorem sekC {B : List UInt8} {p q : Nat} (h : q ≤ B.length) (h2 : q ≤ 2147483647) : seekC (cs B p) q = cs B q := by
  unfold seekC seekS
  rw [if_pos h2, if_pos (by show (0 : Int) ≤ q ∧ (q : Int) ≤ (B.length : Int); omega)]
  rfl
theorem WN_mid (a m b : List UInt8) (k : Nat) (h : m.length = k) : WN (a ++ (m ++ b)) a.length k = leNum m := by
  unfold WN
  rw [List.drop_left, ← h, List.take_left]
theorem WN_app (a b : List UInt8) (p k : Nat) : WN (a ++ b) (a.length + p) k = WN b p k := by
  unfold WN
  rw [← List.drop_drop, List.drop_left]
theorem WN_left (a b : List UInt8) (p k : Nat) (h : p + k ≤ a.length) : WN (a ++ b) p k = WN a p k := by
  unfold WN
  rw [List.drop_append_of_le_length (by omega), List.take_append_of_le_length (by rw [List.length_drop]; omega)]
theorem WN_hd : ∀ (ws : List Nat) (k : Nat) (r : List UInt8), k < ws.length → WN (hdB ws ++ r) (4 * k) 4 = ws.getD k 0 % 4294967296
  | [], k, r, h => by simp at h
  | n :: ws, 0, r, _ => by
    have : hdB (n :: ws) ++ r = [] ++ (leB n 4 ++ (hdB ws ++ r)) := by simp [hdB]
    rw [this, show 4 * 0 = ([] : List UInt8).length from rfl, WN_mid _ _ _ _ (leB_len _ _), leNum_leB]
    rfl
  | n :: ws, k + 1, r, h => by
    have : hdB (n :: ws) ++ r = leB n 4 ++ (hdB ws ++ r) := by simp [hdB]
    rw [this, show 4 * (k + 1) = (leB n 4).length + 4 * k by rw [leB_len]; omega, WN_app, WN_hd ws k r (by simpa using h)]
    rfl

/-- How many bytes an import of a format has. -/
def isz (fm : Int) : Nat := if fm = 3 then 16 else if fm = 2 then 8 else 4
theorem impBB_isz (x : Imp) (n : Nat) (fm : Int) : (impBB x n fm).length = isz fm := by
  unfold impBB impB isz
  split
  · simp [leB_len]
  · split <;> simp [leB_len]
/-- What an import of a format says, and where a reader stands behind it. -/
def rawS (fm : Int) (s : CS) : Raw := if fm = 3 then wideR (numberV s 8) (numberV (numberS s 8) 8) else if fm = 2 then longR (numberV s 4) (numberV (numberS s 4) 4) else shortR (numberV s 4)
def rawE (fm : Int) (s : CS) : CS := if fm = 3 then numberS (numberS s 8) 8 else if fm = 2 then numberS (numberS s 4) 4 else numberS s 4
theorem rawE_cs (fm : Int) (B : List UInt8) (p : Nat) (h : p + isz fm ≤ B.length) : rawE fm (cs B p) = cs B (p + isz fm) := by
  unfold rawE isz at *
  split
  · rename_i h3; rw [if_pos h3] at h
    rw [show ((8 : Int)) = ((8 : Nat) : Int) from rfl, numS (by decide) (by omega), numS (by decide) (by omega)]
  · rename_i h3; rw [if_neg h3] at h
    split
    · rename_i h2; rw [if_pos h2] at h
      rw [show ((4 : Int)) = ((4 : Nat) : Int) from rfl, numS (by decide) (by omega), numS (by decide) (by omega)]
    · rename_i h2; rw [if_neg h2] at h
      rw [show ((4 : Int)) = ((4 : Nat) : Int) from rfl, numS (by decide) h]
theorem below_back (z : Int) (top : Nat) (ht : (top : Nat) ∣ 18446744073709551616) (h1 : -3 ≤ z) (h2 : z ≤ 64) (h3 : 256 ≤ top) : belowI (u64N z % top) top = z := by
  obtain ⟨q, hq⟩ := ht
  have e : u64N z % top = (z % (top : Int)).toNat := by
    have : ((u64N z % top : Nat) : Int) = z % (top : Int) := by
      rw [Int.natCast_emod, u64N_int]
      exact Int.emod_emod_of_dvd _ ⟨(q : Int), by rw [← Int.natCast_mul, ← hq]; rfl⟩
    omega
  rw [e]
  unfold belowI
  by_cases h0 : 0 ≤ z
  · rw [Int.emod_eq_of_lt h0 (by omega), if_neg (by omega)]
    omega
  · have : z % (top : Int) = z + top := by
      rw [← Int.add_emod_right, Int.emod_eq_of_lt (by omega) (by omega)]
    rw [this, if_pos (by omega)]
    omega
theorem read_back (x : Imp) (n : Nat) (fm : Int) (d : Nat) (hf : fm = 1 ∨ fm = 2 ∨ fm = 3) (ho : ordB x.ord d = true) (hd : d ≤ 64) (hfm : fmtN [x] ≤ fm) (wf : x.wf) (hn : n < 8388608) (a b : List UInt8) :
    rawS fm (cs (a ++ (impBB x n fm ++ b)) a.length) = ⟨x.ord, x.weak, ⟨#[]⟩, x.add, (n : Nat)⟩ := by
  have hlen := impBB_isz x n fm
  have hB : (a ++ (impBB x n fm ++ b)).length = a.length + (isz fm + b.length) := by rw [List.length_append, List.length_append, hlen]
  have ho2 : -3 ≤ x.ord ∧ x.ord ≤ 64 := by
    unfold ordB at ho
    rw [Bool.and_eq_true, decide_eq_true_iff, decide_eq_true_iff] at ho
    omega
  have b8 := below_back x.ord 256 (by decide) ho2.1 ho2.2 (by decide)
  have b16 := below_back x.ord 65536 (by decide) ho2.1 ho2.2 (by decide)
  have wa := bounds_i64 wf.2
  have hbig : fm ≠ 3 → -2147483648 ≤ x.add ∧ x.add ≤ 2147483647 := by
    intro h3
    have : [x].any bigA = false := by
      cases e : [x].any bigA with
      | false => rfl
      | true => unfold fmtN at hfm; rw [e, if_pos rfl] at hfm; omega
    simp only [List.any_cons, List.any_nil, Bool.or_false] at this
    unfold bigA at this
    rw [Bool.or_eq_false_iff, decide_eq_false_iff_not, decide_eq_false_iff_not] at this
    omega
  have hz : fm = 1 → x.add = 0 := by
    intro h1
    have : [x].any (fun x => decide (x.add ≠ 0)) = false := by
      cases e : [x].any (fun x => decide (x.add ≠ 0)) with
      | false => rfl
      | true =>
        unfold fmtN at hfm
        rw [e, if_pos rfl] at hfm
        split at hfm <;> omega
    simp only [List.any_cons, List.any_nil, Bool.or_false, decide_eq_false_iff_not, Decidable.not_not] at this
    exact this
  have hW : impW x n < 4294967296 := by
    unfold impW
    have := Nat.mod_lt (u64N x.ord) (show 0 < 256 by decide)
    split <;> omega
  have hr : impW x n % 256 = u64N x.ord % 256 ∧ (impW x n / 256 % 2 == 1) = x.weak ∧ impW x n / 512 = n := by
    have hN : impW x n = u64N x.ord % 256 + (if x.weak then 256 else 0) + n * 512 := rfl
    have hu := Nat.mod_lt (u64N x.ord) (show 0 < 256 by decide)
    generalize impW x n = N at *
    generalize u64N x.ord % 256 = U at *
    cases hw : x.weak with
    | true =>
      rw [hw, if_pos rfl] at hN
      refine ⟨by omega, ?_, by omega⟩
      rw [beq_iff_eq]; omega
    | false =>
      rw [hw] at hN
      simp only [Bool.false_eq_true, if_false, Nat.add_zero] at hN
      refine ⟨by omega, ?_, by omega⟩
      rw [beq_eq_false_iff_ne]; omega
  rcases hf with rfl | rfl | rfl
  · have e0 : impBB x n 1 = leB (impW x n) 4 := by unfold impBB impB; rw [if_neg (by decide), if_neg (by decide), List.append_nil]
    have hi : isz 1 = 4 := rfl
    rw [e0] at hB ⊢
    unfold rawS
    rw [if_neg (by decide), if_neg (by decide), show ((4 : Int)) = ((4 : Nat) : Int) from rfl, numV (by decide) (by omega), WN_mid _ _ _ _ (leB_len _ _), leNum_leB, Nat.mod_eq_of_lt (by omega)]
    unfold shortR
    rw [hr.1, b8, hr.2.1, hr.2.2, hz rfl]
  · have e0 : impBB x n 2 = leB (impW x n) 4 ++ leB (u64N x.add) 4 := by unfold impBB impB; rw [if_neg (by decide), if_pos rfl]
    have hi : isz 2 = 8 := rfl
    rw [e0] at hB ⊢
    unfold rawS
    rw [if_neg (by decide), if_pos rfl, show ((4 : Int)) = ((4 : Nat) : Int) from rfl, numS (by decide) (by omega), numV (by decide) (by omega), numV (by decide) (by omega)]
    have e1 : WN (a ++ (leB (impW x n) 4 ++ leB (u64N x.add) 4 ++ b)) a.length 4 = impW x n := by
      rw [List.append_assoc, WN_mid _ _ _ _ (leB_len _ _), leNum_leB, Nat.mod_eq_of_lt (by omega)]
    have e2 : WN (a ++ (leB (impW x n) 4 ++ leB (u64N x.add) 4 ++ b)) (a.length + 4) 4 = u64N x.add % 4294967296 := by
      rw [WN_app, List.append_assoc]
      have := WN_mid (leB (impW x n) 4) (leB (u64N x.add) 4) b 4 (leB_len _ _)
      rw [leB_len] at this
      rw [this, leNum_leB]
    rw [e1, e2]
    unfold longR
    have hb := hbig (by decide)
    have e3 : wrap32 ((u64N x.add % 4294967296 : Nat) : Int) = x.add := by
      have := u64N_int x.add
      unfold wrap32
      omega
    rw [hr.1, b8, hr.2.1, hr.2.2, e3]
  · have e0 : impBB x n 3 = leB (u64N x.ord % 65536 + (if x.weak then 65536 else 0) + n * 4294967296) 8 ++ leB (u64N x.add) 8 := by unfold impBB; rw [if_pos rfl]
    have hi : isz 3 = 16 := rfl
    rw [e0] at hB ⊢
    obtain ⟨N, hN⟩ : ∃ N, N = u64N x.ord % 65536 + (if x.weak then 65536 else 0) + n * 4294967296 := ⟨_, rfl⟩
    rw [← hN] at hB ⊢
    have hNl : N < 18446744073709551616 := by
      have := Nat.mod_lt (u64N x.ord) (show 0 < 65536 by decide)
      rw [hN]
      split <;> omega
    have q1 : N % 65536 = u64N x.ord % 65536 ∧ (N / 65536 % 2 == 1) = x.weak ∧ N / 4294967296 = n := by
      have hu := Nat.mod_lt (u64N x.ord) (show 0 < 65536 by decide)
      generalize u64N x.ord % 65536 = U at *
      cases hw : x.weak with
      | true =>
        rw [hw, if_pos rfl] at hN
        refine ⟨by omega, ?_, by omega⟩
        rw [beq_iff_eq]; omega
      | false =>
        rw [hw] at hN
        simp only [Bool.false_eq_true, if_false, Nat.add_zero] at hN
        refine ⟨by omega, ?_, by omega⟩
        rw [beq_eq_false_iff_ne]; omega
    unfold rawS
    rw [if_pos rfl, show ((8 : Int)) = ((8 : Nat) : Int) from rfl, numS (by decide) (by omega), numV (by decide) (by omega), numV (by decide) (by omega)]
    have e1 : WN (a ++ (leB N 8 ++ leB (u64N x.add) 8 ++ b)) a.length 8 = N := by
      rw [List.append_assoc, WN_mid _ _ _ _ (leB_len _ _), leNum_leB, Nat.mod_eq_of_lt (by omega)]
    have e2 : WN (a ++ (leB N 8 ++ leB (u64N x.add) 8 ++ b)) (a.length + 8) 8 = u64N x.add := by
      rw [WN_app, List.append_assoc]
      have := WN_mid (leB N 8) (leB (u64N x.add) 8) b 8 (leB_len _ _)
      rw [leB_len] at this
      rw [this, leNum_leB, Nat.mod_eq_of_lt (u64N_lt _)]
    rw [e1, e2]
    unfold wideR
    have e3 : wrap64 (u64N x.add : Int) = x.add := by
      have := u64N_int x.add
      unfold wrap64
      omega
    rw [q1.1, b16, q1.2.1, q1.2.2, e3]
theorem indexByte_app (b : List UInt8) : ∀ (a : List UInt8), ¬ 0 ≤ Lib.indexByte a 0 → Lib.indexByte (a ++ 0 :: b) 0 = a.length
  | [], _ => by simp [Lib.indexByte]
  | x :: a, h => by
    have hg := Lib.indexByte_ge a 0
    by_cases hx : (x == 0) = true
    · unfold Lib.indexByte at h
      rw [if_pos hx] at h
      exact absurd (Int.le_refl 0) h
    · have hl : Lib.indexByte a 0 = -1 := by
        unfold Lib.indexByte at h
        rw [if_neg hx] at h
        split at h
        · rename_i e; exact eq_of_beq e
        · rename_i e
          have : Lib.indexByte a 0 ≠ -1 := fun e2 => e (by rw [e2]; rfl)
          omega
      have ih := indexByte_app b a (by omega)
      rw [List.cons_append]
      unfold Lib.indexByte
      have hne : ¬ ((a.length : Int) == -1) = true := by rw [beq_iff_eq]; omega
      rw [if_neg hx, ih, if_neg hne, List.length_cons]
      omega
/-- Where names stand. -/
structure Nm.Well (fm : Int) (s : Nm) (k : Nat) : Prop where
  out : s.out.length = isz fm * k
  pl : ∀ q p, s.pl q = some p → ∃ pre post, s.ns = pre ++ (q.data.toList ++ 0 :: post) ∧ pre.length = p
theorem Nm.Well.step {fm : Int} {s : Nm} {k : Nat} (h : s.Well fm k) (x : Imp) : (s.step fm x).Well fm (k + 1) := by
  constructor
  · simp only [Nm.step, List.length_append, impBB_isz, h.out, Nat.mul_succ]
  · intro q p hq
    simp only [Nm.step] at hq ⊢
    by_cases hp : s.pl x.sym = none
    · rw [if_pos hp] at hq ⊢
      by_cases he : q = x.sym
      · subst he
        simp only [if_true, Option.some.injEq] at hq
        exact ⟨s.ns, [], by simp, hq⟩
      · simp only [if_neg he] at hq
        obtain ⟨pre, post, h1, h2⟩ := h.pl q p hq
        exact ⟨pre, post ++ (x.sym.data.toList ++ [0]), by rw [h1]; simp, h2⟩
    · rw [if_neg hp] at hq ⊢
      exact h.pl q p hq
theorem nm_well (fm : Int) (l : List Imp) : ∀ k, k ≤ l.length → (nmAll fm (l.take k)).Well fm k
  | 0, _ => ⟨rfl, fun q p h => by cases h⟩
  | k + 1, h => by
    rw [take_snoc h, nmAll_snoc]
    exact (nm_well fm l k (Nat.le_of_lt h)).step _
theorem nm_grow (fm : Int) : ∀ (r : List Imp) (s : Nm), ∃ o n, (r.foldl (Nm.step fm) s).out = s.out ++ o ∧ (r.foldl (Nm.step fm) s).ns = s.ns ++ n
  | [], s => ⟨[], [], by simp, by simp⟩
  | x :: r, s => by
    obtain ⟨o, n, h1, h2⟩ := nm_grow fm r (s.step fm x)
    rw [List.foldl_cons, h1, h2]
    simp only [Nm.step]
    split
    · exact ⟨_, _, List.append_assoc .., List.append_assoc ..⟩
    · exact ⟨_, _, List.append_assoc .., rfl⟩
theorem nm_back (fm : Int) (l : List Imp) (k : Nat) (hk : k < l.length) : ∃ p o1 o2 n1 n2, (nmAll fm l).out = o1 ++ (impBB (l.getD k .zero) p fm ++ o2) ∧ o1.length = isz fm * k ∧ (nmAll fm l).ns = n1 ++ ((l.getD k .zero).sym.data.toList ++ 0 :: n2) ∧ n1.length = p := by
  have hw := nm_well fm l k (Nat.le_of_lt hk)
  have hw1 := nm_well fm l (k + 1) hk
  have e := nmAll_snoc fm (l.take k) (l.getD k .zero)
  rw [← take_snoc hk] at e
  have hpl : (nmAll fm (l.take (k + 1))).pl (l.getD k .zero).sym = some ((nmAll fm (l.take k)).at (l.getD k .zero)) := by
    rw [e]
    simp only [Nm.step, Nm.at]
    split
    · rename_i h
      show (if (l.getD k Imp.zero).sym = (l.getD k Imp.zero).sym then some _ else _) = _
      rw [if_pos rfl, h]
      rfl
    · rename_i h
      cases hp : (nmAll fm (l.take k)).pl (l.getD k .zero).sym with
      | none => exact absurd hp h
      | some p => rfl
  obtain ⟨pre, post, h1, h2⟩ := hw1.pl _ _ hpl
  have hall : nmAll fm l = (l.drop (k + 1)).foldl (Nm.step fm) (nmAll fm (l.take (k + 1))) := by
    unfold nmAll
    rw [← List.foldl_append, List.take_append_drop]
  obtain ⟨o, n, g1, g2⟩ := nm_grow fm (l.drop (k + 1)) (nmAll fm (l.take (k + 1)))
  rw [← hall] at g1 g2
  refine ⟨_, (nmAll fm (l.take k)).out, o, pre, post ++ n, ?_, hw.out, ?_, h2⟩
  · rw [g1, e]
    simp only [Nm.step, List.append_assoc]
  · rw [g2, h1]
    simp
end Go.Proofs.YtkclmknepbbhnaaDoor
