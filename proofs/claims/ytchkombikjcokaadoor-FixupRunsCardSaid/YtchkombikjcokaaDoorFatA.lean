/- The parts of a fat file; fat.put, the document's Big; buffers and rows of the call's own. -/
import Derived.Test.YtchkombikjcokaaDoorApart
import Derived.Test.YtchkombikjcokaaDoorReg
/- The parts of a fat file: where they stand, what is made of them. No program in sight. -/
namespace Go.Proofs.YtchkombikjcokaaDoor
open Go.RowKit
set_option maxRecDepth 100000

/-- A part of a fat file. -/
structure Mem where
  cpu : Nat
  sub : Nat
  align : Int
  bytes : List UInt8
def Mem.zero : Mem := ⟨0, 0, 0, []⟩
def Mem.ok (m : Mem) : Prop := m.cpu < 4294967296 ∧ m.sub < 4294967296 ∧ -9223372036854775808 ≤ m.align ∧ m.align < 9223372036854775808
/-- The slice value v of parts reads as ms. -/
def MemRd (w : World) (v : Value) (ms : List Mem) : Prop :=
  ∃ a n cap, v = .slice a n cap ∧ n = ms.length ∧ n ≤ cap ∧ cap ≤ maxLen ∧
    (ms ≠ [] → ∃ b off, a = some ⟨b, off, none⟩ ∧ b < w.heap.size ∧ ∀ j, j < ms.length →
      w.cell? ⟨b, off + j * 4, none⟩ = some (.int .u32 (ms.getD j .zero).cpu) ∧
      w.cell? ⟨b, off + j * 4 + 1, none⟩ = some (.int .u32 (ms.getD j .zero).sub) ∧
      w.cell? ⟨b, off + j * 4 + 2, none⟩ = some (.int .i64 (ms.getD j .zero).align) ∧
      ∃ a' cap', w.cell? ⟨b, off + j * 4 + 3, none⟩ = some (.slice a' (ms.getD j .zero).bytes.length cap') ∧ Rd w (.slice a' (ms.getD j .zero).bytes.length cap') (bytesV (ms.getD j .zero).bytes))
theorem MemRd.frame {w w' : World} {v : Value} {ms : List Mem} (h : MemRd w v ms) (k : Chg [] w w') : MemRd w' v ms := by
  obtain ⟨a, n, cap, rfl, hn, hc, hm, hx⟩ := h
  refine ⟨a, n, cap, rfl, hn, hc, hm, fun hne => ?_⟩
  obtain ⟨b, off, rfl, hb, hcell⟩ := hx hne
  refine ⟨b, off, rfl, Nat.lt_of_lt_of_le hb k.size, fun j hj => ?_⟩
  obtain ⟨h1, h2, h3, a', cap', h4, h5⟩ := hcell j hj
  exact ⟨k.cell h1 (by simp), k.cell h2 (by simp), k.cell h3 (by simp), a', cap', k.cell h4 (by simp), h5.frame k (fun _ _ hm => by cases hm)⟩

/-- The next place that the align divides. -/
def padTo (at_ a : Nat) : Nat := at_ + (pw2 a - at_ % pw2 a) % pw2 a
theorem padTo_ge (at_ a : Nat) : at_ ≤ padTo at_ a := Nat.le_add_right _ _
theorem padTo_lt (at_ a : Nat) : padTo at_ a < at_ + pw2 a := Nat.add_lt_add_left (Nat.mod_lt _ (pw2_pos a)) _
theorem padTo_mod (at_ a : Nat) : padTo at_ a % pw2 a = 0 := by
  have hp := pw2_pos a
  unfold padTo
  generalize pw2 a = P at *
  have h1 : at_ % P < P := Nat.mod_lt _ hp
  have h2 := Nat.div_add_mod at_ P
  by_cases h0 : at_ % P = 0
  · rw [h0, Nat.sub_zero, Nat.mod_self, Nat.add_zero]; exact h0
  · rw [Nat.mod_eq_of_lt (show P - at_ % P < P by omega)]
    have e : at_ + (P - at_ % P) = P * (at_ / P + 1) := by rw [Nat.mul_add]; omega
    rw [e, Nat.mul_mod_right]
theorem padTo_done {at_ a x : Nat} (h1 : at_ ≤ x) (h2 : x ≤ padTo at_ a) (h : x % pw2 a = 0) : x = padTo at_ a := by
  have h3 := padTo_lt at_ a
  have h4 := padTo_mod at_ a
  generalize padTo at_ a = y at *
  have hp := pw2_pos a
  generalize pw2 a = P at *
  have h5 : (y - x) % P = 0 := by
    have h7 := Nat.div_add_mod x P
    have h8 := Nat.div_add_mod y P
    rw [h, Nat.add_zero] at h7
    rw [h4, Nat.add_zero] at h8
    have e : y - x = P * (y / P - x / P) := by rw [Nat.mul_sub, h7, h8]
    rw [e, Nat.mul_mod_right]
  rw [Nat.mod_eq_of_lt (show y - x < P by omega)] at h5
  omega
theorem padTo_more {at_ a x : Nat} (h2 : x ≤ padTo at_ a) (h : ¬ x % pw2 a = 0) : x + 1 ≤ padTo at_ a := by
  have h4 := padTo_mod at_ a
  rcases Nat.lt_or_ge x (padTo at_ a) with h3 | h3
  · exact h3
  · rw [show x = padTo at_ a by omega] at h; exact absurd h4 h

def alignN (m : Mem) : Nat := m.align.toNat
/-- Where so many parts end, whose first one may begin at e. -/
def atL (e : Nat) (ms : List Mem) : Nat := ms.foldl (fun x m => padTo x (alignN m) + m.bytes.length) e
theorem atL_snoc (e : Nat) (ms : List Mem) (m : Mem) : atL e (ms ++ [m]) = padTo (atL e ms) (alignN m) + m.bytes.length := by simp [atL]
theorem getD_take {α : Type} (ls : List α) (d : α) (k : Nat) (h : k < ls.length) : ls.take (k + 1) = ls.take k ++ [ls.getD k d] := by
  rw [List.take_succ_eq_append_getElem h]; simp [List.getD_eq_getElem?_getD, h]
/-- The place of one of them. -/
def placeOf (e : Nat) (ms : List Mem) (k : Nat) : Nat := padTo (atL e (ms.take k)) (alignN (ms.getD k .zero))
theorem atL_take (e : Nat) (ms : List Mem) (k : Nat) (h : k < ms.length) : atL e (ms.take (k + 1)) = placeOf e ms k + (ms.getD k .zero).bytes.length := by
  rw [getD_take ms .zero k h, atL_snoc]; rfl
def zerosL (n : Nat) : List UInt8 := List.replicate n 0
/-- The parts' bytes, with noughts ahead of each. -/
def bodyL (e : Nat) (ms : List Mem) : List UInt8 := ms.foldl (fun b m => b ++ zerosL (padTo (e + b.length) (alignN m) - (e + b.length)) ++ m.bytes) []
theorem bodyL_snoc (e : Nat) (ms : List Mem) (m : Mem) : bodyL e (ms ++ [m]) = bodyL e ms ++ zerosL (padTo (e + (bodyL e ms).length) (alignN m) - (e + (bodyL e ms).length)) ++ m.bytes := by simp [bodyL]
theorem bodyL_atk (e : Nat) (ms : List Mem) : ∀ k, k ≤ ms.length → e + (bodyL e (ms.take k)).length = atL e (ms.take k)
  | 0, _ => by simp [bodyL, atL]
  | k + 1, h => by
    have ih := bodyL_atk e ms k (by omega)
    have hg := padTo_ge (atL e (ms.take k)) (alignN (ms.getD k .zero))
    rw [getD_take ms .zero k (by omega), atL_snoc, bodyL_snoc, ih]
    simp only [List.length_append, zerosL, List.length_replicate]
    omega
theorem bodyL_at (e : Nat) (ms : List Mem) : e + (bodyL e ms).length = atL e ms := by
  have := bodyL_atk e ms ms.length (Nat.le_refl _)
  rwa [List.take_length] at this
theorem bodyL_take (e : Nat) (ms : List Mem) (k : Nat) (h : k < ms.length) : bodyL e (ms.take (k + 1)) = (bodyL e (ms.take k) ++ zerosL (placeOf e ms k - atL e (ms.take k))) ++ (ms.getD k .zero).bytes := by
  rw [getD_take ms .zero k h, bodyL_snoc, bodyL_atk e ms k (by omega)]; rfl
/-- May the align be? -/
def alB (m : Mem) : Bool := decide (0 ≤ m.align) && decide (m.align ≤ 15)
theorem alignN_le {m : Mem} (h : alB m = true) : alignN m ≤ 15 ∧ m.align = alignN m := by
  unfold alB at h; simp at h; unfold alignN; omega
theorem padTo_le {x a : Nat} (h : a ≤ 15) : padTo x a ≤ x + 32768 := by
  have h1 := padTo_lt x a
  have h2 : pw2 a ≤ pw2 15 := pw2_mono h
  have h15 : pw2 15 = 32768 := by decide
  omega
theorem atL_mono (e : Nat) (ms : List Mem) (k : Nat) (h : k < ms.length) : atL e (ms.take k) ≤ placeOf e ms k ∧ placeOf e ms k ≤ atL e (ms.take (k + 1)) := by
  rw [atL_take e ms k h]
  exact ⟨padTo_ge _ _, Nat.le_add_right _ _⟩
theorem atL_le (e : Nat) (ms : List Mem) : ∀ k j, k + j ≤ ms.length → atL e (ms.take k) ≤ atL e (ms.take (k + j))
  | _, 0, _ => Nat.le_refl _
  | k, j + 1, h => by
    have := atL_le e ms k j (by omega)
    have := atL_mono e ms (k + j) (by omega)
    rw [← Nat.add_assoc]
    omega
theorem atL_ge (e : Nat) (ms : List Mem) (k : Nat) (h : k ≤ ms.length) : e ≤ atL e (ms.take k) := by
  have := atL_le e ms 0 k (by omega)
  rw [Nat.zero_add] at this
  exact this
/-- A bound, whatever the parts. -/
theorem atL_small (e M : Nat) (ms : List Mem) (hb : ∀ m ∈ ms, m.bytes.length ≤ M) : ∀ k, k ≤ ms.length → (∀ m ∈ ms.take k, alB m = true) → atL e (ms.take k) ≤ e + k * (M + 32768)
  | 0, _, _ => by simp [atL]
  | k + 1, h, ha => by
    have hk : k < ms.length := by omega
    have hmem : ms.getD k .zero ∈ ms.take (k + 1) := by rw [getD_take ms .zero k hk]; simp
    have ih := atL_small e M ms hb k (by omega) (fun m hm => ha m (by rw [getD_take ms .zero k hk]; simp [hm]))
    have h1 := padTo_le (x := atL e (ms.take k)) (alignN_le (ha _ hmem)).1
    have h2 := hb _ (List.mem_of_mem_take hmem)
    rw [atL_take e ms k hk, Nat.add_mul, Nat.one_mul]
    unfold placeOf
    omega

/-- The slices that the parts are. -/
def slOf (e : Nat) (ms : List Mem) (k : Nat) : SL := ⟨(ms.getD k .zero).cpu, (ms.getD k .zero).sub, placeOf e ms k, (ms.getD k .zero).bytes.length, (ms.getD k .zero).align⟩
def sls (e : Nat) (ms : List Mem) (k : Nat) : List SL := (List.range k).map (slOf e ms)
theorem sls_len (e : Nat) (ms : List Mem) (k : Nat) : (sls e ms k).length = k := by simp [sls]
theorem sls_succ (e : Nat) (ms : List Mem) (k : Nat) : sls e ms (k + 1) = sls e ms k ++ [slOf e ms k] := by simp [sls, List.range_succ]
theorem sls_get (e : Nat) (ms : List Mem) (k n : Nat) (h : k < n) : (sls e ms n).getD k .zero = slOf e ms k := by simp [sls, List.getD_eq_getElem?_getD, h]

/-- A number's bytes, the highest first. -/
def bgL (n m : Nat) : List UInt8 := (List.range m).map fun i => UInt8.ofNat (n / pw2 (8 * (m - 1 - i)) % 256)
theorem bgL_len (n m : Nat) : (bgL n m).length = m := by simp [bgL]
def esz (wide : Bool) : Nat := if wide then 32 else 20
def wdt (wide : Bool) : Nat := if wide then 8 else 4
def magN (wide : Bool) : Nat := if wide then 3405691583 else 3405691582
def entL (wide : Bool) (s : SL) : List UInt8 := ((((bgL s.cpu 4 ++ bgL s.sub 4) ++ bgL s.off (wdt wide)) ++ bgL s.size (wdt wide)) ++ bgL s.align.toNat 4) ++ zerosL (esz wide - (12 + 2 * wdt wide))
theorem entL_len (wide : Bool) (s : SL) : (entL wide s).length = esz wide := by
  unfold entL
  simp only [List.length_append, bgL_len, zerosL, List.length_replicate]
  cases wide <;> rfl
def entsL (wide : Bool) (e : Nat) (ms : List Mem) (k : Nat) : List UInt8 := (sls e ms k).flatMap (entL wide)
theorem entsL_succ (wide : Bool) (e : Nat) (ms : List Mem) (k : Nat) : entsL wide e ms (k + 1) = entsL wide e ms k ++ entL wide (slOf e ms k) := by simp [entsL, sls_succ]
theorem entsL_len (wide : Bool) (e : Nat) (ms : List Mem) : ∀ k, (entsL wide e ms k).length = k * esz wide
  | 0 => by simp [entsL, sls]
  | k + 1 => by rw [entsL_succ, List.length_append, entsL_len wide e ms k, entL_len, Nat.add_mul, Nat.one_mul]
def headF (wide : Bool) (n : Nat) : List UInt8 := bgL (magN wide) 4 ++ bgL n 4
theorem headF_len (wide : Bool) (n : Nat) : (headF wide n).length = 8 := by simp [headF, bgL_len]
def endOf (wide : Bool) (ms : List Mem) : Nat := 8 + ms.length * esz wide
/-- The fat file. -/
def fatL (wide : Bool) (ms : List Mem) : List UInt8 := (headF wide ms.length ++ entsL wide (endOf wide ms) ms ms.length) ++ bodyL (endOf wide ms) ms
theorem fatL_len (wide : Bool) (ms : List Mem) : (fatL wide ms).length = atL (endOf wide ms) ms := by
  unfold fatL
  rw [List.length_append, List.length_append, headF_len, entsL_len]
  exact bodyL_at _ ms
def likeM (a b : Mem) : Bool := decide (a.cpu = b.cpu) && decide (a.sub % 16777216 = b.sub % 16777216)
def anyM (ms : List Mem) (k : Nat) : Bool := (List.range k).any fun i => (ms.take i).any (likeM (ms.getD i .zero))
/-- Why there is none. -/
def fatE (wide : Bool) (ms : List Mem) : Int :=
  if (ms.all alB) = false then 2 else if ms.length = 0 then 2 else if 32 < ms.length ∨ 1048576 < atL (endOf wide ms) ms then 11 else if anyM ms ms.length = true then 21 else 0
end Go.Proofs.YtchkombikjcokaaDoor
/- Plain: what is made of parts: whether two slices meet or are alike. -/
namespace Go.Proofs.YtchkombikjcokaaDoor
open Go.RowKit
set_option maxRecDepth 100000

theorem mem_getD {ms : List Mem} {k : Nat} (h : k < ms.length) : ms.getD k .zero ∈ ms := by simp [List.getD_eq_getElem?_getD, h]
theorem sls_take (e : Nat) (ms : List Mem) (k n : Nat) (h : k ≤ n) : (sls e ms n).take k = sls e ms k := by
  unfold sls; rw [← List.map_take, List.take_range, Nat.min_eq_left h]
theorem take_range_map {α : Type} (d : α) (ms : List α) (k : Nat) (h : k ≤ ms.length) : ms.take k = (List.range k).map (fun i => ms.getD i d) := by
  apply List.ext_getElem?
  intro j
  by_cases hj : j < k
  · have : j < ms.length := by omega
    simp [hj, this]
  · simp [hj, List.getElem?_take]
theorem meet_no (e : Nat) (ms : List Mem) (n : Nat) (hn : n ≤ ms.length) : anyK meetS (sls e ms n) n = false := by
  unfold anyK
  rw [List.any_eq_false]
  intro i hi
  rw [List.mem_range] at hi
  unfold anyI
  rw [sls_get _ _ _ _ hi, sls_take _ _ _ _ (Nat.le_of_lt hi), Bool.not_eq_true, List.any_eq_false]
  intro s hs
  obtain ⟨j, hj, rfl⟩ := List.mem_map.1 hs
  rw [List.mem_range] at hj
  have h1 := atL_take e ms j (by omega)
  have h2 := atL_le e ms (j + 1) (i - (j + 1)) (by omega)
  rw [show j + 1 + (i - (j + 1)) = i by omega] at h2
  have h3 := (atL_mono e ms i (by omega)).1
  unfold meetS meetN slOf
  simp only [Bool.and_eq_true, decide_eq_true_eq]
  omega
theorem any_iff {α : Type} {l : List α} {p q : α → Bool} (h : ∀ x ∈ l, p x = q x) : l.any p = l.any q := by
  rw [Bool.eq_iff_iff, List.any_eq_true, List.any_eq_true]
  constructor
  · rintro ⟨x, hx, hp⟩; exact ⟨x, hx, by rw [← h x hx]; exact hp⟩
  · rintro ⟨x, hx, hp⟩; exact ⟨x, hx, by rw [h x hx]; exact hp⟩
theorem like_eq (e : Nat) (ms : List Mem) (n : Nat) (hn : n ≤ ms.length) : anyK likeB (sls e ms n) n = anyM ms n := by
  unfold anyK anyM
  refine any_iff fun i hi => ?_
  rw [List.mem_range] at hi
  unfold anyI
  rw [sls_get _ _ _ _ hi, sls_take _ _ _ _ (Nat.le_of_lt hi), take_range_map Mem.zero ms i (by omega)]
  unfold sls
  rw [List.any_map, List.any_map]
  rfl
theorem apE_sls (e : Nat) (ms : List Mem) : apE (sls e ms ms.length) = if anyM ms ms.length = true then 21 else 0 := by
  unfold apE
  rw [sls_len, meet_no _ _ _ (Nat.le_refl _), like_eq _ _ _ (Nat.le_refl _)]
  rfl
theorem slOf_ok (e : Nat) (ms : List Mem) (n k : Nat) (hn : n ≤ ms.length) (hk : k < n) (hok : ∀ m ∈ ms, m.ok) (hat : atL e (ms.take n) ≤ 1048576) : (slOf e ms k).ok := by
  have h1 := atL_take e ms k (by omega)
  have h2 := atL_le e ms (k + 1) (n - (k + 1)) (by omega)
  rw [show k + 1 + (n - (k + 1)) = n by omega] at h2
  obtain ⟨a, b, c, d⟩ := hok (ms.getD k .zero) (by simp [List.getD_eq_getElem?_getD, show k < ms.length by omega])
  refine ⟨a, b, ?_, ?_, c, d⟩
  · show placeOf e ms k < _; omega
  · show (ms.getD k .zero).bytes.length < _; omega

theorem beNum_fold (l : List UInt8) (n : Nat) : l.foldl (fun n x => n * 256 + x.toNat) n = n * 256 ^ l.length + beNum l := by
  induction l generalizing n with
  | nil => simp [beNum]
  | cons x r ih =>
    unfold beNum
    simp only [List.foldl_cons, List.length_cons]
    rw [ih, ih (0 * 256 + x.toNat), Nat.pow_succ]
    simp only [Nat.zero_mul, Nat.zero_add, Nat.add_mul]
    rw [Nat.mul_comm (256 ^ r.length) 256, Nat.mul_assoc, Nat.add_assoc]
theorem beNum_cons (x : UInt8) (l : List UInt8) : beNum (x :: l) = x.toNat * 256 ^ l.length + beNum l := by
  show l.foldl _ (0 * 256 + x.toNat) = _
  rw [beNum_fold, Nat.zero_mul, Nat.zero_add]
theorem pw2_8 (m : Nat) : pw2 (8 * m) = 256 ^ m := by unfold pw2; rw [Nat.pow_mul]
theorem bgL_succ (n m : Nat) : bgL n (m + 1) = UInt8.ofNat (n / pw2 (8 * m) % 256) :: bgL n m := by
  unfold bgL
  rw [List.range_succ_eq_map, List.map_cons, List.map_map]
  congr 1
  refine List.map_congr_left fun i hi => ?_
  simp only [Function.comp]
  rw [show m + 1 - 1 - (i + 1) = m - 1 - i by omega]
theorem beNum_bgL (n : Nat) : ∀ m, beNum (bgL n m) = n % 256 ^ m
  | 0 => by simp [bgL, beNum, Nat.mod_one]
  | m + 1 => by
    rw [bgL_succ, beNum_cons, beNum_bgL n m, bgL_len, pw2_8, Nat.pow_succ]
    have e : (UInt8.ofNat (n / 256 ^ m % 256)).toNat = n / 256 ^ m % 256 := by simp
    rw [e, Nat.mod_mul]
    rw [Nat.mul_comm, Nat.add_comm]
theorem num_at (l a : List UInt8) (n p m : Nat) (h : ∃ b, l = a ++ (bgL n m ++ b)) (hp : a.length = p) (hn : n < 256 ^ m) : num l p m = n := by
  obtain ⟨b, h⟩ := h
  subst hp
  unfold num numOf
  rw [h, if_pos rfl, List.drop_left, List.take_left' (bgL_len n m), beNum_bgL, Nat.mod_eq_of_lt hn]
/-- An entry, where it stands, reads as the slice. -/
theorem entry_at (wide : Bool) (l a b : List UInt8) (s : SL) (p : Nat) (h : l = a ++ (entL wide s ++ b)) (hp : a.length = p) (h1 : s.cpu < 4294967296) (h2 : s.sub < 4294967296) (h3 : s.off < 4294967296) (h4 : s.size < 4294967296) (h5 : 0 ≤ s.align ∧ s.align ≤ 15) :
    entry l (wdt wide) p = s := by
  have w4 : 4294967296 ≤ 256 ^ wdt wide := by cases wide <;> decide
  have e1 : num l p 4 = s.cpu := num_at l a _ _ _ ⟨_, by rw [h]; unfold entL; simp only [List.append_assoc]; rfl⟩ hp h1
  have e2 : num l (p + 4) 4 = s.sub := num_at l (a ++ bgL s.cpu 4) _ _ _ ⟨_, by rw [h]; unfold entL; simp only [List.append_assoc]; rfl⟩ (by simp [bgL_len, hp]) h2
  have e3 : num l (p + 8) (wdt wide) = s.off := num_at l (a ++ (bgL s.cpu 4 ++ bgL s.sub 4)) _ _ _ ⟨_, by rw [h]; unfold entL; simp only [List.append_assoc]; rfl⟩ (by simp [bgL_len, hp]) (by omega)
  have e4 : num l (p + 8 + wdt wide) (wdt wide) = s.size := num_at l (a ++ (bgL s.cpu 4 ++ (bgL s.sub 4 ++ bgL s.off (wdt wide)))) _ _ _ ⟨_, by rw [h]; unfold entL; simp only [List.append_assoc]; rfl⟩ (by simp [bgL_len, hp]; omega) (by omega)
  have e5 : num l (p + 8 + 2 * wdt wide) 4 = s.align.toNat := num_at l (a ++ (bgL s.cpu 4 ++ (bgL s.sub 4 ++ (bgL s.off (wdt wide) ++ bgL s.size (wdt wide))))) _ _ _ ⟨_, by rw [h]; unfold entL; simp only [List.append_assoc]; rfl⟩ (by simp [bgL_len, hp]; omega) (by omega)
  unfold entry
  rw [e1, e2, e3, e4, e5]
  obtain ⟨c, u, o, z, g⟩ := s
  simp only [SL.mk.injEq, true_and]
  simp only at h5
  omega
end Go.Proofs.YtchkombikjcokaaDoor
/- fat.put and the document's Big: a number's bytes, the highest first. -/
namespace Go.Proofs.YtchkombikjcokaaDoor
open Go.RowKit
set_option maxRecDepth 100000

theorem Grew.none {w : World} {base : Nat} {v : Value} {l : List UInt8} (h : Buf w base v l) : Grew w base v l w v [] := ⟨by rw [List.append_nil]; exact h, Chg.refl _ _, .inl rfl⟩
/-- One more byte. -/
theorem Grew.byte {w w0 w1 w' : World} {base : Nat} {v v1 v' : Value} {l new : List UInt8} {x : UInt8} (h : Grew w base v l w0 v1 new) (k : Chg [] w0 w1)
    (hb : Buf w' base v' ((l ++ new) ++ [x])) (hc : w1.grownBy w' v1.ownBlock) (ho : v'.ownBlock = v1.ownBlock ∨ v'.ownBlock = some w1.heap.size) : Grew w base v l w' v' (new ++ [x]) :=
  h.trans (Grew.mk' k hb hc ho)
theorem bgL_take (n m k : Nat) (h : k < m) : (bgL n m).take (k + 1) = (bgL n m).take k ++ [UInt8.ofNat (n / pw2 (8 * (m - 1 - k)) % 256)] := by
  rw [List.take_succ_eq_append_getElem (by rw [bgL_len]; exact h)]
  simp [bgL]
theorem bgL_all (n m : Nat) : (bgL n m).take m = bgL n m := List.take_of_length_le (by rw [bgL_len]; exact Nat.le_refl _)
theorem Rd_byte (w : World) (x : Nat) (hx : x < 256) (T : TypeId) : Rd (w.alloc (.cells #[.int .u8 (x : Int)] T)) (.slice (some ⟨w.heap.size, 0, none⟩) 1 1) (bytesV [UInt8.ofNat x]) := by
  rw [bytesV_ofNat x hx]
  exact Rd_new w [.int .u8 (x : Int)] T 1 rfl (by show 1 ≤ maxLen; unfold maxLen; omega)

theorem imask (X A P : Nat) (hX : X < 9223372036854775808) (hA : A ≤ 15) (hP : P = pw2 A) : bits .and .i64 (X : Int) ((P : Int) - 1) = ((X % P : Nat) : Int) := by
  have e : (P : Int) = (2 : Int) ^ A := by rw [hP]; unfold pw2; push_cast; rfl
  have := Go.bits_mask .i64 63 (by decide) (fun n h1 h2 => by rw [IntKind.wrap_i64]; omega) A (by omega) (X : Int) (by omega) (by omega)
  rw [e]
  refine this.trans ?_
  rw [← e, Int.natCast_emod]

set_option maxHeartbeats 1000000 in
theorem fput_any (v : Value) (l : List UInt8) (n m : Nat) (hm : m ≤ 8) (base : Nat) (w : World) (hb : Buf w base v l) (hbase : base ≤ w.heap.size) (hl : l.length ≤ 70368744177664) :
    Calls Tryd.prog 58 #[v, .int .u64 n, .int .i64 m] w fun e w' => ∃ v', e = .returned v' ∧ Grew w base v l w' v' (bgL n m) := by
  have HB0 := Lib.hid (hb)
  have HBASE := Lib.hid hbase
  clear hbase
  clear hb
  go_enter Tryd.func58, Tryd.ntmps58
  go_wp2_with fail
  go_loopw [0, 7] (fun s0 s7 wr => ∃ k : Nat, k ≤ m ∧ s7 = .int .i64 ((m : Int) - 1 - k) ∧ Grew w base v l wr s0 ((bgL n m).take k)) (fun _ s7 _ => (intOf s7 + 1).toNat)
  case atStart => exact ⟨0, Nat.zero_le _, by simp, Grew.none HB0.out⟩
  case round =>
    obtain ⟨k, hk, rfl, hg⟩ := hrel
    have HG := Lib.hid (hg)
    clear hg
    by_cases hlt : k < m
    · have HS := Lib.hid (bgL_take n m k hlt)
      obtain ⟨i, hi⟩ : ∃ i, i = m - 1 - k := ⟨_, rfl⟩
      have hi' : (m : Int) - 1 - k = (i : Int) := by omega
      have h8 : i ≤ 7 := by omega
      rw [hi']
      rw [← hi] at HS
      obtain ⟨x, hx⟩ : ∃ x, x = n / pw2 (8 * i) % 256 := ⟨_, rfl⟩
      have HX : Hid ((n : Int) / 2 ^ (8 * i) % 256 = (x : Int)) := Lib.hid (by rw [hx]; unfold pw2; push_cast; rfl)
      have HX8 : Hid (x < 256) := Lib.hid (by rw [hx]; exact Nat.mod_lt _ (by decide))
      rw [← hx] at HS
      have HLEN : Hid ((l ++ (bgL n m).take k).length ≤ l.length + 8) := Lib.hid (by rw [List.length_append, List.length_take]; omega)
      clear hi hx
      go_wp2_with (at_builtin; refine app_buf rfl _ _ rfl base u0 (l ++ (bgL n m).take k) rfl (HG.out.buf.pure ((Chg.refl [] wr).alloc _)) _ rfl [UInt8.ofNat x] (by rw [HX.out]; exact Rd_byte wr x HX8.out _) (by have := HLEN.out; simp only [List.length_cons, List.length_nil]; omega) (by have := HBASE.out; have := HG.out.chg.size; simp only [World.alloc, Array.size_push]; omega) ?_; intro va wa hoa hga haa; refine Hid.out ?_)
      refine Lib.hid ?_
      have HGN : Hid (Grew w base v l wa va ((bgL n m).take (k + 1))) := Lib.hid (by rw [HS.out]; exact HG.out.byte ((Chg.refl [] wr).alloc _) hoa hga haa)
      clear hoa hga haa
      go_wp2
      go_roundw
      case rel => exact ⟨k + 1, hlt, by rw [show (m : Int) - 1 - ((k + 1 : Nat) : Int) = (i : Int) - 1 by omega], HGN.out⟩
      case measure => simp [intOf]
    · obtain rfl : k = m := by omega
      rw [bgL_all] at HG
      have d1 : decide ((0 : Int) ≤ (k : Int) - 1 - k) = false := by simp; omega
      go_wp2
      go_ret
      exact ⟨_, rfl, HG.out⟩

set_option maxHeartbeats 1000000 in
theorem Big_any (n m : Nat) (hn : n < 18446744073709551616) (hm : m ≤ 8) (w : World) :
    Calls Tryd.prog 51 #[.int .u64 n, .int .i64 m] w fun e w' => ∃ v', e = .returned v' ∧ Buf w' w.heap.size v' (bgL n m) ∧ Chg [] w w' := by
  go_enter Tryd.func51, Tryd.ntmps51
  go_wp2_with fail
  go_loopw [5, 6] (fun s5 s6 wr => ∃ k : Nat, k ≤ m ∧ s6 = .int .i64 ((m : Int) - 1 - k) ∧ Buf wr w.heap.size s5 ((bgL n m).take k) ∧ Chg [] w wr) (fun _ s6 _ => (intOf s6 + 1).toNat)
  case atStart => exact ⟨0, Nat.zero_le _, by simp, Buf.nil _ _, Chg.refl _ _⟩
  case round =>
    obtain ⟨k, hk, rfl, hb, hch⟩ := hrel
    have HB := Lib.hid hb
    have HC := Lib.hid hch
    clear hb hch
    by_cases hlt : k < m
    · have HS := Lib.hid (bgL_take n m k hlt)
      obtain ⟨i, hi⟩ : ∃ i, i = m - 1 - k := ⟨_, rfl⟩
      have hi' : (m : Int) - 1 - k = (i : Int) := by omega
      have h8 : i ≤ 7 := by omega
      rw [hi']
      rw [← hi] at HS
      have hp := pw2_pos (8 * i)
      obtain ⟨P, hP⟩ : ∃ P, P = pw2 (8 * i) := ⟨_, rfl⟩
      rw [← hP] at hp HS
      obtain ⟨x, hx⟩ : ∃ x, x = n / P % 256 := ⟨_, rfl⟩
      have HX : Hid ((IntKind.u64.wrap ((n : Int) / (P : Int))).tmod 256 % 256 = (x : Int)) := by
        refine Lib.hid ?_
        obtain ⟨q, hq⟩ : ∃ q, q = n / P := ⟨_, rfl⟩
        have h1 : q ≤ n := by rw [hq]; exact Nat.div_le_self _ _
        have e1 : (n : Int) / (P : Int) = (q : Int) := by rw [hq]; push_cast; rfl
        rw [e1, hx, ← hq]
        clear hq e1 hx
        have hw : IntKind.u64.wrap (q : Int) = (q : Int) := by rw [IntKind.wrap_u64]; omega
        rw [hw, Int.tmod_eq_emod_of_nonneg (by omega)]
        omega
      have HX8 : Hid (x < 256) := Lib.hid (by rw [hx]; exact Nat.mod_lt _ (by decide))
      rw [← hx] at HS
      have HLEN : Hid (((bgL n m).take k).length ≤ 8) := Lib.hid (by rw [List.length_take, bgL_len]; omega)
      have HPW := Lib.hid (fun w => power_any (8 * i) (by omega) w)
      rw [← hP] at HPW
      clear hi hx hP
      go_wp2_with fail
      refine (HPW.out _).mono ?_
      rintro e w1 ⟨rfl, rfl⟩
      go_wp2_with (at_builtin; refine app_buf rfl _ _ rfl w.heap.size u5 ((bgL n m).take k) rfl (HB.out.pure ((Chg.refl [] w1).alloc _)) _ rfl [UInt8.ofNat x] (by rw [HX.out]; exact Rd_byte w1 x HX8.out _) (by have := HLEN.out; simp only [List.length_cons, List.length_nil]; omega) (by have := HC.out.size; simp only [World.alloc, Array.size_push]; omega) ?_; intro va wa hoa hga haa; refine Hid.out ?_)
      refine Lib.hid ?_
      have HBN : Hid (Buf wa w.heap.size va ((bgL n m).take (k + 1))) := Lib.hid (by rw [HS.out]; exact hoa)
      have HCN : Hid (Chg [] w wa) := Lib.hid ((HC.out.alloc _).trans (Chg.of_grown hga) (fun i hm hi => by have := (World.ownsRow.lt HB.out i (by simpa using hm)).1; omega))
      clear hoa hga haa
      go_wp2
      go_roundw
      case rel => exact ⟨k + 1, hlt, by rw [show (m : Int) - 1 - ((k + 1 : Nat) : Int) = (i : Int) - 1 by omega], HBN.out, HCN.out⟩
      case measure => simp [intOf]
    · obtain rfl : k = m := by omega
      rw [bgL_all] at HB
      have d1 : decide ((0 : Int) ≤ (k : Int) - 1 - k) = false := by simp; omega
      go_wp2
      go_ret
      exact ⟨_, rfl, HB.out, HC.out⟩
end Go.Proofs.YtchkombikjcokaaDoor
/- Two buffers and a row of slices, all of the call's own, apart. -/
namespace Go.Proofs.YtchkombikjcokaaDoor
open Go.RowKit
set_option maxRecDepth 100000

theorem own_ne {w : World} {base : Nat} {T : TypeId} {size : Nat} {v : Value} {n : Nat} {xs : List Value} (h : w.ownsRow base T size v n xs) {q : Nat} {c : Array Value} {T' : TypeId} {fz : Nat × Nat} (hq : w.heap[q]? = some (.cells c T' fz)) (hT : T' ≠ T) : q ∉ v.ownBlock.toList := by
  intro hm
  rcases h.2 with ⟨rfl, _⟩ | ⟨g, cap, cur, rfl, _, hg, _⟩
  · simp [Value.ownBlock] at hm
  · simp [Value.ownBlock] at hm
    subst hm
    rw [hg] at hq
    simp at hq
    exact hT hq.2.1.symm
theorem rows_ne {w : World} {b1 b2 : Nat} {T1 T2 : TypeId} {s1 s2 : Nat} {v1 v2 : Value} {n1 n2 : Nat} {xs1 xs2 : List Value} (h1 : w.ownsRow b1 T1 s1 v1 n1 xs1) (h2 : w.ownsRow b2 T2 s2 v2 n2 xs2) (hT : T1 ≠ T2) :
    ∀ b, v1.ownBlock = some b → b ∉ v2.ownBlock.toList := by
  intro b hb
  rcases h1.2 with ⟨rfl, _⟩ | ⟨g, cap, cur, rfl, _, hg, _⟩
  · simp [Value.ownBlock] at hb
  · simp [Value.ownBlock] at hb
    subst hb
    exact own_ne h2 hg hT
theorem Two.grew {w w' : World} {base : Nat} {v1 v2 v' : Value} {l1 l2 new : List UInt8} (h : Two w base v1 l1 v2 l2) (g : Grew w base v1 l1 w' v' new) : Two w' base v' (l1 ++ new) v2 l2 := by
  refine ⟨g.buf, h.two.frame g.chg (fun b hb hm => h.ne b (by simpa using hm) hb), fun k hk h2 => ?_⟩
  rcases g.own with e | ⟨j, e, hj⟩
  · exact h.ne k (e ▸ hk) h2
  · rw [e] at hk
    cases hk
    have := (World.ownsRow.lt h.two _ h2).2
    omega
/-- Since world w0 nothing has turned but new blocks; there stand two buffers and a row of slices. -/
structure FM (w0 w : World) (vb : Value) (lb : List UInt8) (va : Value) (la : List SL) (vy : Value) (ly : List UInt8) : Prop where
  two : Two w w0.heap.size vb lb vy ly
  sl : SlBuf w w0.heap.size va la
  chg : Chg [] w0 w
section
variable {w0 w w' : World} {vb va vy v' : Value} {lb ly new : List UInt8} {la la' : List SL}
theorem FM.start (w : World) : FM w w (.slice none 0 0) [] (.slice none 0 0) [] (.slice none 0 0) [] := ⟨⟨Buf.nil _ _, Buf.nil _ _, fun k hk => by simp [Value.ownBlock] at hk⟩, SlBuf.nil _ _, Chg.refl _ _⟩
theorem FM.pure (h : FM w0 w vb lb va la vy ly) (k : Chg [] w w') : FM w0 w' vb lb va la vy ly := ⟨h.two.pure k, h.sl.pure k, h.chg.then k⟩
theorem FM.swap (h : FM w0 w vb lb va la vy ly) : FM w0 w vy ly va la vb lb := ⟨h.two.swap, h.sl, h.chg⟩
theorem FM.b (h : FM w0 w vb lb va la vy ly) (g : Grew w w0.heap.size vb lb w' v' new) : FM w0 w' v' (lb ++ new) va la vy ly :=
  ⟨h.two.grew g, h.sl.frame g.chg (rows_ne h.sl h.two.one (by decide)), h.chg.trans g.chg (fun i hm hi => by have := (World.ownsRow.lt h.two.one i (by simpa using hm)).1; omega)⟩
theorem FM.y (h : FM w0 w vb lb va la vy ly) (g : Grew w w0.heap.size vy ly w' v' new) : FM w0 w' vb lb va la v' (ly ++ new) := (h.swap.b g).swap
theorem FM.s (h : FM w0 w vb lb va la vy ly) (hs : SlBuf w' w0.heap.size v' la') (g : w.grownBy w' va.ownBlock) : FM w0 w' vb lb v' la' vy ly :=
  ⟨⟨h.two.one.frame (Chg.of_grown g) (rows_ne h.two.one h.sl (by decide)), h.two.two.frame (Chg.of_grown g) (rows_ne h.two.two h.sl (by decide)), h.two.ne⟩, hs,
    h.chg.trans (Chg.of_grown g) (fun i hm hi => by have := (World.ownsRow.lt h.sl i (by simpa using hm)).1; omega)⟩
end
/-- A block that is no buffer stays as it is when a buffer grows. -/
theorem Grew.keep {w w' : World} {base : Nat} {v v' : Value} {l new : List UInt8} (g : Grew w base v l w' v' new) (hb : Buf w base v l) {q : Nat} {c : Array Value} {T : TypeId} (hq : w.heap[q]? = some (.cells c T (0, 0))) (hT : T ≠ 5) : w'.heap[q]? = some (.cells c T (0, 0)) :=
  g.chg.heap hq (own_ne hb hq hT)
end Go.Proofs.YtchkombikjcokaaDoor
/- append of bytes, and of one slice, as a step of a region that draws its order. -/
namespace Go.Proofs.YtchkombikjcokaaDoor
open Go.RowKit
set_option maxRecDepth 100000

theorem SlBuf.form {w : World} {base : Nat} {v : Value} {ls : List SL} (h : SlBuf w base v ls) : ∃ a cap, v = .slice a ls.length cap := by
  obtain ⟨a, n, cap, rfl, hn, _⟩ := h.rd
  subst hn
  exact ⟨a, cap, rfl⟩
theorem run_app_bytes (w : World) (ty : TypeId) (base : Nat) (v : Value) (l : List UInt8) (hb : Buf w base v l) (xv : Value) (new : List UInt8) (hrd : Rd w xv (bytesV new)) (hle : l.length + new.length ≤ 140737488355328) (hbase : base ≤ w.heap.size) :
    ∃ v' w', (Builtin.append_ #[24, 24] ty #[v, xv]).run Tryd.prog w = .ok v' w' ∧ Grew w base v l w' v' new := by
  obtain ⟨i0, hi, hz0, hz1, hz2⟩ := info_parts Tryd.infoU8
  obtain ⟨ax, m, c, rfl, hm, _, _, hcl⟩ := id hrd
  rw [bytesV_length] at hm
  cases ax with
  | none =>
    have hl : new = [] := by
      cases new with
      | nil => rfl
      | cons b l => obtain ⟨_, _, h, _⟩ := hcl (by simp [bytesV]); cases h
    subst hl
    simp only [List.length_nil] at hm
    subst hm
    refine ⟨v, w, ?_, Grew.none hb⟩
    rcases hb.2 with ⟨rfl, h0⟩ | ⟨g, cap, cur, rfl, _, _, hnc, _⟩
    · simp [Builtin.append_, run_underlying Tryd.underlying24, sizeOf, typeInfo, hi, Builtin.lenOf, Builtin.firstCells]
    · simp [Builtin.append_, run_underlying Tryd.underlying24, sizeOf, typeInfo, hi, Builtin.lenOf, Builtin.firstCells, hnc, storeCells]
  | some ad =>
    obtain ⟨hl, hc⟩ := Rd_bytes_cells hrd
    subst hl
    obtain ⟨v', w', hr, h2, h3, _, h5⟩ := run_append_own_at (P := Tryd.prog) w base 24 ty 5 i0 (.int .u8 0) 1 1 Tryd.underlying24 hi hz0 hz1 hz2 rfl (by decide) v l.length (bytesV l) hb ad new.length c (bytesV new) (by rw [bytesV_length, Nat.mul_one]) hc (bytes_one _) (by unfold maxLen; omega) (by omega) hbase
    exact ⟨v', w', hr, Grew.mk' (Chg.refl _ _) (Buf.app h2) h3 h5⟩
theorem run_app_sl (w : World) (ty : TypeId) (base : Nat) (v : Value) (ls : List SL) (hb : SlBuf w base v ls) (q : Nat) (sl : SL) {T : TypeId} (hq : w.heap[q]? = some (.cells #[.int .u32 sl.cpu, .int .u32 sl.sub, .int .u64 sl.off, .int .u64 sl.size, .int .i64 sl.align] T (0, 0)))
    (hlen : ls.length ≤ 1000000) (hbase : base ≤ w.heap.size) :
    ∃ v' w', (Builtin.append_ #[37, 37] ty #[v, .slice (some ⟨q, 0, none⟩) 1 1]).run Tryd.prog w = .ok v' w' ∧ SlBuf w' base v' (ls ++ [sl]) ∧ w.grownBy w' v.ownBlock := by
  obtain ⟨i0, hi, hz0, hz1, hz2⟩ := info_parts Tryd.infoSl
  obtain ⟨v', w', hr, h2, h3, _, _⟩ := run_append_own_at (P := Tryd.prog) w base 37 ty 52 i0 _ 5 32 Tryd.uSlsF hi hz0 hz1 hz2 rfl (by decide) v ls.length (slV ls) hb ⟨q, 0, none⟩ 1 1 sl.cells rfl (by
    intro j u hu
    rw [Addr_add, Nat.zero_add, cell_of_heap hq]
    simpa [SL.cells] using hu) (by
    intro u hu
    simp only [SL.cells, List.mem_cons, List.not_mem_nil, or_false] at hu
    rcases hu with rfl | rfl | rfl | rfl | rfl <;> rfl) (by unfold maxLen; omega) (by omega) hbase
  refine ⟨v', w', hr, ?_, h3⟩
  unfold SlBuf
  rw [slV_snoc, List.length_append]
  exact h2
section
variable {o : Oper} {a : Act} {w : World} {K : Act → World → Prop} {Q : Exit → Act → World → Prop} {tm : Nat → Option Bool}
theorem arm_bytes (hgd : o.guard = none) (s x : Operand) (ho : o.op = .call { callee := .builtin .append, args := #[s, x], argTypes := #[24, 24] })
    (base : Nat) (v : Value) (l : List UInt8) (hs : a.eval s = v) (hb : Buf w base v l) (xv : Value) (hx : a.eval x = xv) (new : List UInt8) (hrd : Rd w xv (bytesV new)) (hle : l.length + new.length ≤ 140737488355328) (hbase : base ≤ w.heap.size)
    (h : ∀ v' w', Grew w base v l w' v' new → K (a.put o.dst v') w') : if Region.wanted o tm = true then Oper.wp Tryd.prog o a w K Q else K (a.put o.dst undef) w := by
  rw [if_pos (by simp [Region.wanted, hgd])]
  obtain ⟨v', w', hr, hg⟩ := run_app_bytes w o.type base v l hb xv new hrd hle hbase
  unfold Oper.wp execOp
  simp only [ho, resolve, invoke, builtin, Sem.run_bind, Sem.run_pure, Result.andThen_ok, List.map_toArray, List.map_cons, List.map_nil, hs, hx, hr]
  exact h _ _ hg
theorem arm_sl (hgd : o.guard = none) (s x : Operand) (ho : o.op = .call { callee := .builtin .append, args := #[s, x], argTypes := #[37, 37] })
    (base : Nat) (v : Value) (ls : List SL) (hs : a.eval s = v) (hb : SlBuf w base v ls) (q : Nat) (sl : SL) {T : TypeId} (hx : a.eval x = .slice (some ⟨q, 0, none⟩) 1 1) (hq : w.heap[q]? = some (.cells #[.int .u32 sl.cpu, .int .u32 sl.sub, .int .u64 sl.off, .int .u64 sl.size, .int .i64 sl.align] T (0, 0)))
    (hlen : ls.length ≤ 1000000) (hbase : base ≤ w.heap.size)
    (h : ∀ v' w', SlBuf w' base v' (ls ++ [sl]) → w.grownBy w' v.ownBlock → K (a.put o.dst v') w') : if Region.wanted o tm = true then Oper.wp Tryd.prog o a w K Q else K (a.put o.dst undef) w := by
  rw [if_pos (by simp [Region.wanted, hgd])]
  obtain ⟨v', w', hr, hg, hgr⟩ := run_app_sl w o.type base v ls hb q sl hq hlen hbase
  unfold Oper.wp execOp
  simp only [ho, resolve, invoke, builtin, Sem.run_bind, Sem.run_pure, Result.andThen_ok, List.map_toArray, List.map_cons, List.map_nil, hs, hx, hr]
  exact h _ _ hg hgr
end
end Go.Proofs.YtchkombikjcokaaDoor
