/- Lemmas, laid together: part 33 of 41. Conditions: none but each lemma's own. -/
import Derived.Test.YtkomocgodljecaaGreatDoorK32
import Derived.Test.YtkomocgodljecaaGreatDoorK28
/- Plain: what holds of binds that may be made; bytes of opcodes. -/
namespace Go.Proofs.YtkomocgodljecaaGreatDoor
open Go.RowKit
set_option maxRecDepth 100000

/-- What holds of binds that may be made. -/
structure MayB (K : Int) (nd : Nat) (ls : List Seg) (S : List Fx) : Prop where
  k : 1 ≤ K ∧ K ≤ 3
  meet : meetF S = false
  kind : ∀ f ∈ S, f.kind = 2 ∧ mayFx f = true ∧ (K = 2 → f.ord = -3)
  ord : ∀ f ∈ S, f.ord ≤ nd
  len : S.length ≤ 20000
  wr : ∀ f ∈ S, writS ls f.at_ 8 = true
theorem mayBE_zero {K : Int} {nd : Nat} {ls : List Seg} {S : List Fx} (h : mayBE K nd ls S = 0) : MayB K nd ls S := by
  unfold mayBE at h
  split at h
  · exact absurd h (by decide)
  rename_i c1
  split at h
  · exact absurd h (by decide)
  rename_i c2
  split at h
  · exact absurd h (by decide)
  rename_i c3
  split at h
  · exact absurd h (by decide)
  rename_i c4
  split at h
  · exact absurd h (by decide)
  rename_i c5
  rw [Bool.not_eq_true, List.any_eq_false] at c2 c3 c5
  have m1 : meetF S = false := by
    cases hm : meetF S with
    | false => rfl
    | true => exact absurd (.inr (.inr hm)) c1
  have k1 : 1 ≤ K ∧ K ≤ 3 := by
    constructor
    · exact Int.not_lt.1 fun h => c1 (.inl h)
    · exact Int.not_lt.1 fun h => c1 (.inr (.inl h))
  refine ⟨k1, m1, fun f hf => ?_, fun f hf => ?_, by omega, fun f hf => ?_⟩
  · have h0 := c2 f hf
    unfold badB at h0
    simp only [Bool.or_eq_true, not_or, decide_eq_true_eq, Bool.not_eq_true', Bool.not_eq_false, Bool.and_eq_true, not_and, Decidable.not_not] at h0
    exact ⟨h0.1, by simpa using h0.2.1, h0.2.2⟩
  · have h0 := c3 f hf
    simpa using h0
  · have h0 := c5 f hf
    simpa using h0
theorem mayFx_bind {f : Fx} (h : mayFx f = true) (hk : f.kind = 2) : f.tgt = 0 ∧ -3 ≤ f.ord ∧ f.ord ≤ 64 ∧ f.sym.toList ≠ [] ∧ f.sym.size ≤ 255 ∧ ¬ 0 ≤ Lib.indexByte f.sym.data.toList 0 := by
  unfold mayFx at h
  rw [if_neg (by omega), if_pos hk, Bool.and_eq_true, decide_eq_true_eq, Bool.not_eq_true', decide_eq_false_iff_not] at h
  exact ⟨h.1.1, h.1.2.1, h.1.2.2.1, h.1.2.2.2.1, h.1.2.2.2.2, h.2⟩
theorem orB16 (i : Nat) (h : i < 16) : bits .or .u8 16 (i : Int) = ((16 + i : Nat) : Int) := by
  have : i = 0 ∨ i = 1 ∨ i = 2 ∨ i = 3 ∨ i = 4 ∨ i = 5 ∨ i = 6 ∨ i = 7 ∨ i = 8 ∨ i = 9 ∨ i = 10 ∨ i = 11 ∨ i = 12 ∨ i = 13 ∨ i = 14 ∨ i = 15 := by omega
  rcases this with rfl | rfl | rfl | rfl | rfl | rfl | rfl | rfl | rfl | rfl | rfl | rfl | rfl | rfl | rfl | rfl <;> decide
theorem orB112 (i : Nat) (h : i < 16) : bits .or .u8 112 (IntKind.u8.wrap (i : Int)) = ((112 + i : Nat) : Int) := by
  have : i = 0 ∨ i = 1 ∨ i = 2 ∨ i = 3 ∨ i = 4 ∨ i = 5 ∨ i = 6 ∨ i = 7 ∨ i = 8 ∨ i = 9 ∨ i = 10 ∨ i = 11 ∨ i = 12 ∨ i = 13 ∨ i = 14 ∨ i = 15 := by omega
  rcases this with rfl | rfl | rfl | rfl | rfl | rfl | rfl | rfl | rfl | rfl | rfl | rfl | rfl | rfl | rfl | rfl <;> decide
theorem u8_val (q : Nat) (h : q < 256) : [Value.int .u8 (q : Int)] = byteL.vals [UInt8.ofNat q] := by
  rw [Lay.vals_single]
  show [Value.int .u8 q] = [Value.int .u8 ((UInt8.ofNat q).toNat : Nat)]
  rw [UInt8.toNat_ofNat', Nat.mod_eq_of_lt h]
theorem u8_int (q : Nat) (h : q < 256) : (q : Int) = ((UInt8.ofNat q).toNat : Int) := by
  rw [UInt8.toNat_ofNat', Nat.mod_eq_of_lt h]
theorem getD_memF {S : List Fx} {k : Nat} (h : k < S.length) : S.getD k fxl.d ∈ S := by
  rw [List.getD_eq_getElem?_getD, List.getElem?_eq_getElem h]
  exact List.getElem_mem h
/-- Ahead of the first one and behind k. -/
theorem nowN_get (K : Int) (S : List Fx) (k : Nat) : nowN K S (k + 1) = nxtN (S.getD k fxl.d) := nowN_succ K S k
/-- How long the stream is between two binds, and within one. -/
theorem BkI.len {ls : List Seg} {K : Int} {nd : Nat} {S : List Fx} {k : Nat} {out : List UInt8} (h : BkI ls K S k out) (hM : MayB K nd ls S) : out.length ≤ 6000000 := by
  have h1 := h.n
  have h2 := h.le
  have h3 := hM.len
  omega
theorem len_ord {out : List UInt8} (a b : Int) (h : out.length ≤ 6000000) : (out ++ ordN a b).length ≤ 6000011 := by
  have := ordN_len a b
  rw [List.length_append]
  omega
theorem len_sym {out : List UInt8} (ws : ByteArray) (ww : Bool) (f : Fx) (hf : f.sym.size ≤ 255) (h : out.length ≤ 6000011) : (out ++ symN ws ww f).length ≤ 6000300 := by
  have := symN_len ws ww f hf
  rw [List.length_append]
  omega
theorem len_add {out : List UInt8} (a : Int) (f : Fx) (h : out.length ≤ 6000300) : (out ++ addN a f).length ≤ 6000400 := by
  have := addN_len a f
  rw [List.length_append]
  omega
theorem len_plc {out : List UInt8} (ls : List Seg) (b : Bool) (a : Int) (f : Fx) (h : out.length ≤ 6000400) : (out ++ plcN ls b a f).length ≤ 6000500 := by
  have := plcN_len ls b a f
  rw [List.length_append]
  omega
theorem len_app {out ms : List UInt8} {N : Nat} (h : out.length ≤ N) (hm : ms.length ≤ 1000) (hN : N ≤ 6001000) : (out.length + ms.length) * 1 ≤ 140737488355328 ∧ out.length + ms.length ≤ 9223372036854775807 := by
  omega
theorem orB48m (o : Int) (h1 : -3 ≤ o) (h2 : o < 0) : bits .or .u8 48 (o % 16) = 64 + o := by
  have : o = -3 ∨ o = -2 ∨ o = -1 := by omega
  rcases this with rfl | rfl | rfl <;> decide
theorem len_100 {out ms : List UInt8} {N : Nat} (h : out.length ≤ N) (hm : ms.length ≤ 1000) (hN : N ≤ 7000000) : (out ++ ms).length ≤ 100000000 := by
  rw [List.length_append]
  omega
theorem len_1 {out : List UInt8} {N : Nat} (h : out.length ≤ N) (x : UInt8) : (out ++ [x]).length ≤ N + 1 := by
  rw [List.length_append]
  exact Nat.succ_le_succ h
theorem putU_1000 (n : Nat) : (putU n).length ≤ 1000 := Nat.le_trans (putUf_length 9 n).1 (by decide)
theorem putS_1000 (n : Int) : (putS n).length ≤ 1000 := Nat.le_trans (putSf_length 9 n).1 (by decide)
theorem sym_len {s : ByteArray} (h : s.size ≤ 255) : s.data.toList.length ≤ 1000 := by
  have : s.data.toList.length = s.size := by rw [Array.length_toList]; rfl
  omega
theorem one_1000 (x : UInt8) : ([x] : List UInt8).length ≤ 1000 := by
  show 1 ≤ 1000
  decide
theorem sym_ne {a b : ByteArray} (h : ¬ a = b) : ¬ a.toList = b.toList := fun e => h (by rw [Lib.toList_data, Lib.toList_data] at e; exact ByteArray.ext (Array.toList_inj.1 e))
/-- Where 8 bytes may be written. -/
theorem wr_factsB {ls : List Seg} {A : Int} (h : writS ls A 8 = true) : ∃ k, atS ls A = some k ∧ k < ls.length ∧ (ls.getD k .zero).addr ≤ A ∧ A - (ls.getD k .zero).addr + 8 ≤ (ls.getD k .zero).size := by
  unfold writS at h
  cases hk : atS ls A with
  | none => rw [hk] at h; exact absurd (show false = true from h) (by decide)
  | some k =>
    rw [hk] at h
    have h1 := idx_true Seg.zero hk
    unfold inS at h1
    simp only [Bool.and_eq_true, decide_eq_true_eq, Bool.not_eq_true'] at h h1
    exact ⟨k, rfl, idx_lt hk, h1.2.1, by omega⟩
end Go.Proofs.YtkomocgodljecaaGreatDoor
/- Plain: a stream of binds that was made is read as them. No program in sight. -/
namespace Go.Proofs.YtkomocgodljecaaGreatDoor
open Go.RowKit
set_option maxRecDepth 100000

/-- By opcodes, from one state to another. -/
def Runs (B : List UInt8) (ls : List Seg) (nd : Nat) (K : Int) (s s' : BdS) : Prop := ∃ n, s.p + n ≤ s'.p ∧ ∀ f, decD B ls nd K (f + n) s = decD B ls nd K f s'
theorem Runs.refl {B : List UInt8} {ls : List Seg} {nd : Nat} {K : Int} (s : BdS) : Runs B ls nd K s s := ⟨0, Nat.le_refl _, fun _ => rfl⟩
theorem Runs.trans {B : List UInt8} {ls : List Seg} {nd : Nat} {K : Int} {a b c : BdS} (h : Runs B ls nd K a b) (k : Runs B ls nd K b c) : Runs B ls nd K a c := by
  obtain ⟨n, h1, h2⟩ := h
  obtain ⟨m, k1, k2⟩ := k
  refine ⟨m + n, by omega, fun f => ?_⟩
  rw [← Nat.add_assoc, h2, k2]
theorem Runs.one {B : List UInt8} {ls : List Seg} {nd : Nat} {K : Int} {s s' : BdS} (hp : s.p < B.length) (he : s.ended = false) (h : stepD B ls nd K s = .ok s') : Runs B ls nd K s s' := by
  have := stepD_fwd h hp
  refine ⟨1, by omega, fun f => ?_⟩
  show (if s.p < B.length ∧ s.ended = false then (stepD B ls nd K s).then (decD B ls nd K f) else .ok s) = _
  rw [if_pos ⟨hp, he⟩, h]
  rfl
/-- What stands at a place. -/
def At (B : List UInt8) (p : Nat) (l : List UInt8) : Prop := ∃ r, B.drop p = l ++ r
theorem At.left {B : List UInt8} {p : Nat} {l m : List UInt8} (h : At B p (l ++ m)) : At B p l := by
  obtain ⟨r, hr⟩ := h
  exact ⟨m ++ r, by rw [hr, List.append_assoc]⟩
theorem At.right {B : List UInt8} {p : Nat} {l m : List UInt8} (h : At B p (l ++ m)) : At B (p + l.length) m := by
  obtain ⟨r, hr⟩ := h
  refine ⟨r, ?_⟩
  rw [← List.drop_drop, hr, List.append_assoc, List.drop_left]
theorem At.byte {B : List UInt8} {p : Nat} {x : UInt8} {l : List UInt8} (h : At B p (x :: l)) : p < B.length ∧ byteD B p = x.toNat ∧ At B (p + 1) l := by
  obtain ⟨r, hr⟩ := h
  have h0 : (B.drop p)[0]? = some x := by rw [hr]; rfl
  rw [List.getElem?_drop, Nat.add_zero] at h0
  refine ⟨?_, ?_, r, ?_⟩
  · exact (List.getElem?_eq_some_iff.1 h0).1
  · unfold byteD
    rw [List.getD_eq_getElem?_getD, h0]
    rfl
  · rw [← List.drop_drop, hr]
    rfl
/-- An opcode: its byte, what it makes. -/
theorem Runs.op {B : List UInt8} {ls : List Seg} {nd : Nat} {K : Int} {s s' : BdS} {q : Nat} {l : List UInt8} (hq : q < 256) (h : At B s.p (UInt8.ofNat q :: l)) (he : s.ended = false) (ho : opD B ls nd K (q / 16) (q % 16) { s with p := s.p + 1 } = .ok s') : Runs B ls nd K s s' := by
  obtain ⟨h1, h2, _⟩ := h.byte
  refine Runs.one h1 he ?_
  unfold stepD
  rw [h2, UInt8.toNat_ofNat', Nat.mod_eq_of_lt hq]
  exact ho
theorem numD_put {B : List UInt8} {s : BdS} {n : Nat} (hn : n < 18446744073709551616) (h : At B s.p (putU n)) (k : BdS → Nat → BdR) : numD B s k = k { s with p := s.p + (putU n).length } n := by
  obtain ⟨r, hr⟩ := h
  unfold numD
  rw [hr, uvalV_put n hn]
theorem run_ord {B : List UInt8} {ls : List Seg} {nd : Nat} {K : Int} {s : BdS} {o : Int} (h : At B s.p (ordN s.f.ord o)) (he : s.ended = false) (h1 : -3 ≤ o) (h2 : o ≤ 64) (h3 : o ≤ nd) (hK : K = 2 → o = s.f.ord) :
    Runs B ls nd K s { s with p := s.p + (ordN s.f.ord o).length, f := { s.f with ord := o } } := by
  unfold ordN at h ⊢
  by_cases c1 : o = s.f.ord
  · rw [if_pos c1]
    have : ({ s with p := s.p + ([] : List UInt8).length, f := { s.f with ord := o } } : BdS) = s := by rw [c1]; rfl
    rw [this]
    exact Runs.refl s
  rw [if_neg c1] at h ⊢
  have k2 : ¬ K = 2 := fun e => c1 (hK e)
  by_cases c2 : o < 0
  · rw [if_pos c2] at h ⊢
    have hc : o = -3 ∨ o = -2 ∨ o = -1 := by omega
    refine Runs.op (q := (64 + o).toNat) (by omega) h he ?_
    rcases hc with rfl | rfl | rfl
    all_goals
      show opD B ls nd K 3 _ _ = _
      rw [opD_3, if_neg k2, if_pos (by decide), if_neg (by decide)]
      rfl
  rw [if_neg c2] at h ⊢
  by_cases c3 : o ≤ 15
  · rw [if_pos c3] at h ⊢
    obtain ⟨n, hn⟩ : ∃ n : Nat, o = n := ⟨o.toNat, by omega⟩
    subst hn
    refine Runs.op (q := (16 + (n : Int)).toNat) (by omega) h he ?_
    have e1 : (16 + (n : Int)).toNat / 16 = 1 := by omega
    have e2 : (16 + (n : Int)).toNat % 16 = n := by omega
    rw [e1, e2, opD_1]
    unfold ordD
    rw [if_neg k2, if_neg (by omega)]
    rfl
  · rw [if_neg c3] at h ⊢
    obtain ⟨n, hn⟩ : ∃ n : Nat, o = n := ⟨o.toNat, by omega⟩
    subst hn
    rw [Int.toNat_natCast] at h ⊢
    refine Runs.op (q := 32) (by decide) h he ?_
    show opD B ls nd K 2 _ _ = _
    rw [opD_2, numD_put (s := { s with p := s.p + 1 }) (by omega) h.byte.2.2]
    unfold ordD
    rw [if_neg k2, if_neg (by omega)]
    congr 2
    rw [List.length_cons]
    show s.p + 1 + _ = _
    omega
theorem index_zero : ∀ (l : List UInt8) (r : List UInt8), ¬ 0 ≤ Lib.indexByte l 0 → Lib.indexByte (l ++ 0 :: r) 0 = l.length
  | [], r, _ => rfl
  | x :: l, r, h => by
    unfold Lib.indexByte at h
    have ih := index_zero l r
    show Lib.indexByte (x :: (l ++ 0 :: r)) 0 = _
    unfold Lib.indexByte
    by_cases hx : (x == 0) = true
    · rw [if_pos hx] at h
      exact absurd (Int.le_refl 0) h
    · rw [if_neg hx] at h ⊢
      have h' : ¬ 0 ≤ Lib.indexByte l 0 := fun h0 => h (by
        rw [if_neg (by rw [beq_iff_eq]; omega)]
        omega)
      rw [ih h', if_neg (by rw [beq_iff_eq]; omega), List.length_cons]
      omega
theorem run_sym {B : List UInt8} {ls : List Seg} {nd : Nat} {K : Int} {s : BdS} {x : Fx} (h : At B s.p (symN s.f.sym s.f.weak x)) (he : s.ended = false) (h1 : x.sym.toList ≠ []) (h2 : x.sym.size ≤ 255) (h3 : ¬ 0 ≤ Lib.indexByte x.sym.data.toList 0) :
    Runs B ls nd K s { s with p := s.p + (symN s.f.sym s.f.weak x).length, f := { s.f with sym := x.sym, weak := x.weak } } := by
  unfold symN at h ⊢
  by_cases c1 : x.sym = s.f.sym ∧ x.weak = s.f.weak
  · rw [if_pos c1]
    have : ({ s with p := s.p + ([] : List UInt8).length, f := { s.f with sym := x.sym, weak := x.weak } } : BdS) = s := by rw [c1.1, c1.2]; rfl
    rw [this]
    exact Runs.refl s
  rw [if_neg c1] at h ⊢
  have hlen : x.sym.data.toList.length = x.sym.size := by rw [Array.length_toList]; rfl
  have hne : x.sym.size ≠ 0 := by
    intro h0
    apply h1
    rw [Lib.toList_data]
    exact List.length_eq_zero_iff.1 (by rw [hlen]; exact h0)
  have key : ∀ (q im : Nat) (w : Bool), q < 256 → q / 16 = 4 → q % 16 = im → im ≤ 1 → w = decide (im = 1) → At B s.p (UInt8.ofNat q :: (x.sym.data.toList ++ [0])) → Runs B ls nd K s { s with p := s.p + (x.sym.data.toList.length + 2), f := { s.f with sym := x.sym, weak := w } } := by
    intro q im w hq hq1 hq2 him hw ha
    refine Runs.op hq ha he ?_
    rw [hq1, hq2, opD_4]
    obtain ⟨r, hr⟩ := ha.byte.2.2
    have ht : textD B (s.p + 1) = some x.sym.data.toList := by
      unfold textD
      rw [hr, List.append_assoc, List.singleton_append, index_zero _ r h3, if_pos (by omega), Int.toNat_natCast, List.take_left]
    unfold symD
    show (match textD B (s.p + 1) with | none => BdR.bad 3 | some t => _) = _
    rw [ht]
    dsimp only
    rw [if_neg (by omega), if_neg (by omega), if_neg (by omega), hw]
    congr 2
    omega
  cases hx : x.weak with
  | true =>
    rw [hx] at h
    have := key 65 1 true (by decide) (by decide) (by decide) (by decide) rfl h
    simpa [hlen] using this
  | false =>
    rw [hx] at h
    have := key 64 0 false (by decide) (by decide) (by decide) (by decide) rfl h
    simpa [hlen] using this
theorem run_add {B : List UInt8} {ls : List Seg} {nd : Nat} {K : Int} {s : BdS} {x : Fx} (h : At B s.p (addN s.f.add x)) (he : s.ended = false) (ha : -9223372036854775808 ≤ x.add ∧ x.add < 9223372036854775808) :
    Runs B ls nd K s { s with p := s.p + (addN s.f.add x).length, f := { s.f with add := x.add } } := by
  unfold addN at h ⊢
  by_cases c1 : x.add = s.f.add
  · rw [if_pos c1]
    have : ({ s with p := s.p + ([] : List UInt8).length, f := { s.f with add := x.add } } : BdS) = s := by rw [c1]; rfl
    rw [this]
    exact Runs.refl s
  rw [if_neg c1] at h ⊢
  refine Runs.op (q := 96) (by decide) h he ?_
  show opD B ls nd K 6 _ _ = _
  obtain ⟨r, hr⟩ := h.byte.2.2
  rw [opD_6]
  show (match svalV (B.drop (s.p + 1)) with | none => BdR.bad 3 | some (n, q) => _) = _
  rw [hr, svalV_put x.add ha]
  dsimp only
  congr 2
  rw [List.length_cons]
  omega
theorem wr_factsH {ls : List Seg} {A : Int} (h : writS ls A 8 = true) : ∃ k, atS ls A = some k ∧ k < ls.length ∧ holeS (ls.getD k .zero) = false ∧ (ls.getD k .zero).addr ≤ A ∧ A - (ls.getD k .zero).addr + 8 ≤ (ls.getD k .zero).size := by
  unfold writS at h
  cases hk : atS ls A with
  | none => rw [hk] at h; exact absurd (show false = true from h) (by decide)
  | some k =>
    rw [hk] at h
    have h1 := idx_true Seg.zero hk
    unfold inS at h1
    simp only [Bool.and_eq_true, decide_eq_true_eq, Bool.not_eq_true'] at h h1
    exact ⟨k, rfl, idx_lt hk, h1.1, h1.2.1, by omega⟩
theorem run_plc {B : List UInt8} {ls : List Seg} (hls : SegsB ls) (he2 : ∀ k, k < ls.length → (ls.getD k .zero).addr + (ls.getD k .zero).size ≤ 140737488355328) (h16 : ls.length ≤ 16) {nd : Nat} {K : Int} {s : BdS} {x : Fx} (first : Bool) (h : At B s.p (plcN ls first s.f.at_ x)) (he : s.ended = false) (hi : first = false → s.is_ = true) (hw : writS ls x.at_ 8 = true) :
    Runs B ls nd K s { s with p := s.p + (plcN ls first s.f.at_ x).length, f := { s.f with at_ := x.at_ }, is_ := true } := by
  unfold plcN at h ⊢
  by_cases c1 : first = false ∧ x.at_ = s.f.at_
  · rw [if_pos c1]
    have : ({ s with p := s.p + ([] : List UInt8).length, f := { s.f with at_ := x.at_ }, is_ := true } : BdS) = s := by
      have := hi c1.1
      rw [c1.2, ← this]
      rfl
    rw [this]
    exact Runs.refl s
  rw [if_neg c1] at h ⊢
  obtain ⟨k, hk1, hk, hh, h1, h2⟩ := wr_factsH hw
  have hb := hls k hk
  have h3 := he2 k hk
  have hix : idxI (atS ls x.at_) = (k : Int) := by rw [hk1]; rfl
  rw [hix, Int.toNat_natCast] at h ⊢
  obtain ⟨A, hA⟩ : ∃ A, A = (ls.getD k .zero).addr := ⟨_, rfl⟩
  obtain ⟨Z, hZ⟩ : ∃ Z, Z = (ls.getD k .zero).size := ⟨_, rfl⟩
  have hb1 := hb.1
  rw [← hA] at h h1 h2 h3 hb1 ⊢
  rw [← hZ] at h2 h3
  obtain ⟨d, hd⟩ : ∃ d, d = (x.at_ - A).toNat := ⟨_, rfl⟩
  rw [← hd] at h ⊢
  refine Runs.op (q := 112 + k) (by omega) h he ?_
  have e1 : (112 + k) / 16 = 7 := by omega
  have e2 : (112 + k) % 16 = k := by omega
  rw [e1, e2, opD_7, numD_put (s := { s with p := s.p + 1 }) (by omega) h.byte.2.2]
  have hp : placeS ls (k : Int) (d : Int) = (x.at_, 0) := by
    unfold placeS
    rw [if_pos (by omega), Int.toNat_natCast, hh, if_neg (by decide), ← hZ, if_neg (by omega), ← hA]
    have : IntKind.u64.wrap (A + (d : Int)) = x.at_ := by rw [IntKind.wrap_u64]; omega
    rw [this]
  dsimp only
  rw [hp]
  dsimp only
  rw [if_pos rfl]
  congr 2
  rw [List.length_cons]
  omega
/-- What holds of binds of which a stream is made. -/
structure GoodB (K : Int) (nd : Nat) (ls : List Seg) (l : List Fx) : Prop where
  kind : ∀ f ∈ l, f.kind = 2 ∧ mayFx f = true ∧ (K = 2 → f.ord = -3)
  ord : ∀ f ∈ l, f.ord ≤ nd
  wr : ∀ f ∈ l, writS ls f.at_ 8 = true
  add : ∀ f ∈ l, -9223372036854775808 ≤ f.add ∧ f.add < 9223372036854775808
theorem GoodB.tail {K : Int} {nd : Nat} {ls : List Seg} {x : Fx} {l : List Fx} (h : GoodB K nd ls (x :: l)) : GoodB K nd ls l := ⟨fun f hf => h.kind f (List.mem_cons_of_mem _ hf), fun f hf => h.ord f (List.mem_cons_of_mem _ hf), fun f hf => h.wr f (List.mem_cons_of_mem _ hf), fun f hf => h.add f (List.mem_cons_of_mem _ hf)⟩
/-- The segments, plainly. -/
structure SegQ (ls : List Seg) : Prop where
  b : SegsB ls
  e : ∀ k, k < ls.length → (ls.getD k .zero).addr + (ls.getD k .zero).size ≤ 140737488355328
  n : ls.length ≤ 16
theorem run_grp {B : List UInt8} {ls : List Seg} (hq : SegQ ls) {nd : Nat} {K : Int} {s : BdS} {x : Fx} (first : Bool) (h : At B s.p (grpN ls first s.f x)) (he : s.ended = false) (hi : first = false → s.is_ = true) (ht : s.typ = 1) (hk2 : s.f.kind = 2) (htg : s.f.tgt = 0) (hord : K = 2 → s.f.ord = -3) {l : List Fx} (hg : GoodB K nd ls (x :: l)) (hn : s.fs.length < 20000) :
    Runs B ls nd K s { s with p := s.p + (grpN ls first s.f x).length, f := nxtN x, is_ := true, fs := s.fs ++ [x] } := by
  obtain ⟨g1, g2, g3⟩ := hg.kind x (List.mem_cons_self ..)
  obtain ⟨m1, m2, m3, m4, m5, m6⟩ := mayFx_bind g2 g1
  have hw := hg.wr x (List.mem_cons_self ..)
  obtain ⟨k, _, hk, _, w1, w2⟩ := wr_factsH hw
  have w3 := hq.e k hk
  have w4 := (hq.b k hk).1
  unfold grpN at h ⊢
  have r1 := run_ord (ls := ls) (nd := nd) (K := K) (o := x.ord) h.left he m2 m3 (hg.ord x (List.mem_cons_self ..)) (fun e => by rw [hord e]; exact g3 e)
  have h2 := h.right
  obtain ⟨s1, hs1⟩ : ∃ s1, s1 = ({ s with p := s.p + (ordN s.f.ord x.ord).length, f := { s.f with ord := x.ord } } : BdS) := ⟨_, rfl⟩
  rw [← hs1] at r1
  have r2 := run_sym (ls := ls) (nd := nd) (K := K) (s := s1) (x := x) (by rw [hs1]; exact h2.left) (by rw [hs1]; exact he) m4 m5 m6
  have h3 := h2.right
  obtain ⟨s2, hs2⟩ : ∃ s2, s2 = ({ s1 with p := s1.p + (symN s1.f.sym s1.f.weak x).length, f := { s1.f with sym := x.sym, weak := x.weak } } : BdS) := ⟨_, rfl⟩
  rw [← hs2] at r2
  have r3 := run_add (ls := ls) (nd := nd) (K := K) (s := s2) (x := x) (by rw [hs2, hs1]; exact h3.left) (by rw [hs2, hs1]; exact he) (hg.add x (List.mem_cons_self ..))
  have h4 := h3.right
  obtain ⟨s3, hs3⟩ : ∃ s3, s3 = ({ s2 with p := s2.p + (addN s2.f.add x).length, f := { s2.f with add := x.add } } : BdS) := ⟨_, rfl⟩
  rw [← hs3] at r3
  have r4 := run_plc (nd := nd) (K := K) (s := s3) (x := x) hq.b hq.e hq.n first (by rw [hs3, hs2, hs1]; exact h4.left) (by rw [hs3, hs2, hs1]; exact he) (by rw [hs3, hs2, hs1]; exact hi) hw
  have h5 := h4.right
  obtain ⟨s4, hs4⟩ : ∃ s4, s4 = ({ s3 with p := s3.p + (plcN ls first s3.f.at_ x).length, f := { s3.f with at_ := x.at_ }, is_ := true } : BdS) := ⟨_, rfl⟩
  rw [← hs4] at r4
  have hf4 : s4.f = x := by
    rw [hs4, hs3, hs2, hs1]
    show (⟨x.at_, s.f.kind, s.f.tgt, x.ord, x.sym, x.add, x.weak⟩ : Fx) = x
    rw [hk2, htg, ← g1, ← m1]
  have hfs4 : s4.fs = s.fs := by rw [hs4, hs3, hs2, hs1]
  have hty4 : s4.typ = 1 := by rw [hs4, hs3, hs2, hs1]; exact ht
  have r5 : Runs B ls nd K s4 { s4 with p := s4.p + 1, f := nxtN x, fs := s.fs ++ [x] } := by
    refine Runs.op (q := 144) (l := []) (by decide) (by rw [hs4, hs3, hs2, hs1]; exact h5) (by rw [hs4, hs3, hs2, hs1]; exact he) ?_
    show opD B ls nd K 9 _ _ = _
    rw [opD_9]
    unfold bindsD
    rw [if_pos ⟨by rw [hs4], by show ¬ s4.f.sym.toList = []; rw [hf4]; exact m4, hty4⟩, if_neg (by show ¬ 20000 - s4.fs.length < 1; rw [hfs4]; omega)]
    unfold bndD
    rw [if_pos (by show writS ls s4.f.at_ 8 = true; rw [hf4]; exact hw)]
    have e1 : onD { s4 with p := s4.p + 1, fs := s4.fs ++ [s4.f] } 8 = .ok { s4 with p := s4.p + 1, fs := s.fs ++ [x], f := nxtN x } := by
      unfold onD
      show (if s4.f.at_ + 8 < 18446744073709551616 then _ else _) = _
      rw [hf4, if_pos (by omega)]
      have e2 : nxtN x = { x with at_ := x.at_ + 8 } := by
        unfold nxtN
        have : IntKind.u64.wrap (x.at_ + 8) = x.at_ + 8 := by rw [IntKind.wrap_u64]; omega
        rw [this]
      rw [e2, hfs4]
      rfl
    have e3 : onD { s4 with p := s4.p + 1, fs := s.fs ++ [x], f := nxtN x } 0 = .ok { s4 with p := s4.p + 1, fs := s.fs ++ [x], f := nxtN x } := by
      unfold onD
      have hb : 0 ≤ (nxtN x).at_ ∧ (nxtN x).at_ < 18446744073709551616 := by
        unfold nxtN
        dsimp only
        rw [IntKind.wrap_u64]
        omega
      rw [if_pos (by show (nxtN x).at_ + ((0 : Nat) : Int) < _; omega)]
      have : (nxtN x).at_ + ((0 : Nat) : Int) = (nxtN x).at_ := by omega
      show BdR.ok { s4 with p := s4.p + 1, fs := s.fs ++ [x], f := { nxtN x with at_ := (nxtN x).at_ + ((0 : Nat) : Int) } } = _
      rw [this]
    show (onD { s4 with p := s4.p + 1, fs := s4.fs ++ [s4.f] } 8).then _ = _
    rw [e1]
    show (onD _ 0).then _ = _
    rw [e3]
    rfl
  have hr := ((((r1.trans r2).trans r3).trans r4).trans r5)
  have e9 : ({ s4 with p := s4.p + 1, f := nxtN x, fs := s.fs ++ [x] } : BdS) = { s with p := s.p + (ordN s.f.ord x.ord ++ (symN s.f.sym s.f.weak x ++ (addN s.f.add x ++ (plcN ls first s.f.at_ x ++ [144])))).length, f := nxtN x, is_ := true, fs := s.fs ++ [x] } := by
    rw [hs4, hs3, hs2, hs1]
    simp only [List.length_append, List.length_cons, List.length_nil]
    congr 1
    omega
  rw [e9] at hr
  exact hr
theorem run_all {B : List UInt8} {ls : List Seg} (hq : SegQ ls) {nd : Nat} {K : Int} : ∀ (l : List Fx) (first : Bool) (s : BdS), At B s.p (mkN ls first s.f l) → s.ended = false → (first = false → s.is_ = true) → s.typ = 1 → s.f.kind = 2 → s.f.tgt = 0 → (K = 2 → s.f.ord = -3) → GoodB K nd ls l → s.fs.length + l.length ≤ 20000 →
    ∃ s', Runs B ls nd K s s' ∧ s'.p = s.p + (mkN ls first s.f l).length ∧ s'.ended = false ∧ s'.fs = s.fs ++ l
  | [], first, s, _, he, _, _, _, _, _, _, _ => ⟨s, Runs.refl s, rfl, he, by rw [List.append_nil]⟩
  | x :: r, first, s, h, he, hi, ht, hk, htg, ho, hg, hn => by
    have h' : At B s.p (grpN ls first s.f x ++ mkN ls false (nxtN x) r) := h
    have hl : s.fs.length + (r.length + 1) ≤ 20000 := hn
    have r1 := run_grp hq first h'.left he hi ht hk htg ho hg (by omega)
    obtain ⟨g1, g2, g3⟩ := hg.kind x (List.mem_cons_self ..)
    have m1 := (mayFx_bind g2 g1).1
    obtain ⟨s', r2, p2, e2, f2⟩ := run_all hq r false { s with p := s.p + (grpN ls first s.f x).length, f := nxtN x, is_ := true, fs := s.fs ++ [x] } h'.right he (fun _ => rfl) ht g1 m1 g3 hg.tail (by show (s.fs ++ [x]).length + r.length ≤ 20000; rw [List.length_append, List.length_cons, List.length_nil]; omega)
    refine ⟨s', r1.trans r2, ?_, e2, ?_⟩
    · have p3 : s'.p = s.p + (grpN ls first s.f x).length + (mkN ls false (nxtN x) r).length := p2
      have p4 : (mkN ls first s.f (x :: r)).length = (grpN ls first s.f x).length + (mkN ls false (nxtN x) r).length := by
        show (grpN ls first s.f x ++ mkN ls false (nxtN x) r).length = _
        rw [List.length_append]
      rw [p3, p4]
      omega
    · rw [f2]
      show s.fs ++ [x] ++ r = _
      rw [List.append_assoc]
      rfl
/-- A stream that was made is read as its binds. -/
theorem bind_made {ls : List Seg} (hq : SegQ ls) {nd : Nat} {K : Int} (hK : 1 ≤ K ∧ K ≤ 3) {S : List Fx} (hg : GoodB K nd ls S) (hn : S.length ≤ 20000) : ∃ s, bindD (allN ls K S) ls nd K = .ok s ∧ s.fs = S := by
  obtain ⟨B, hB⟩ : ∃ B, B = allN ls K S := ⟨_, rfl⟩
  rw [← hB]
  have h0 : At B 0 (mkN ls true (now0 K) S ++ [0]) := ⟨[], by rw [hB, List.append_nil]; rfl⟩
  have ef : (bd0 K).f = now0 K := by
    unfold bd0 now0
    by_cases h : K = 2
    · rw [if_pos h]; rfl
    · rw [if_neg h]; rfl
  have hA : At B (bd0 K).p (mkN ls true (bd0 K).f S) := by rw [ef]; exact h0.left
  obtain ⟨s, ⟨n, hn1, hn2⟩, p1, e1, f1⟩ := run_all hq S true (bd0 K) hA rfl (fun h => absurd h (by decide)) rfl rfl rfl (fun h => by unfold bd0; rw [if_pos h]) hg (by simpa [bd0] using hn)
  have hz : At B s.p [0] := by
    rw [p1, ef]
    exact h0.right
  have hlen : B.length = s.p + 1 := by
    rw [hB, p1, ef]
    unfold allN
    rw [List.length_append]
    show _ + 1 = 0 + _ + 1
    omega
  obtain ⟨b1, b2, _⟩ := hz.byte
  have hst : stepD B ls nd K s = .ok { s with p := s.p + 1, ended := !decide (K = 3) } := by
    unfold stepD
    rw [b2]
    rfl
  refine ⟨{ s with p := s.p + 1, ended := !decide (K = 3) }, ?_, f1⟩
  unfold bindD
  rw [if_pos hK]
  have hnl : n + (B.length + 1 - n) = B.length + 1 := by
    have : (bd0 K).p + n ≤ s.p := hn1
    omega
  rw [show B.length + 1 = (B.length + 1 - n) + n by omega, hn2]
  obtain ⟨f, hf⟩ : ∃ f, B.length + 1 - n = f + 1 := ⟨B.length - n, by have : (bd0 K).p + n ≤ s.p := hn1; omega⟩
  rw [hf]
  show (if s.p < B.length ∧ s.ended = false then (stepD B ls nd K s).then (decD B ls nd K f) else .ok s) = _
  rw [if_pos ⟨b1, e1⟩, hst]
  show decD B ls nd K f _ = _
  cases f with
  | zero => rfl
  | succ f =>
    unfold decD
    rw [if_neg (by show ¬ (s.p + 1 < B.length ∧ _); omega)]
theorem mkN_len {ls : List Seg} : ∀ (l : List Fx) (first : Bool) (now : Fx), (∀ f ∈ l, f.sym.size ≤ 255) → (mkN ls first now l).length ≤ 300 * l.length
  | [], _, _, _ => Nat.le_refl _
  | x :: r, first, now, h => by
    have h1 := ordN_len now.ord x.ord
    have h2 := symN_len now.sym now.weak x (h x (List.mem_cons_self ..))
    have h3 := addN_len now.add x
    have h4 := plcN_len ls first now.at_ x
    have h5 := mkN_len (ls := ls) r false (nxtN x) (fun f hf => h f (List.mem_cons_of_mem _ hf))
    show (grpN ls first now x ++ mkN ls false (nxtN x) r).length ≤ 300 * (r.length + 1)
    unfold grpN
    simp only [List.length_append, List.length_cons, List.length_nil]
    omega
theorem allN_len {K : Int} {nd : Nat} {ls : List Seg} {S : List Fx} (h : MayB K nd ls S) : (allN ls K S).length ≤ 6000001 := by
  have h1 := mkN_len (ls := ls) S true (now0 K) (fun f hf => by
    obtain ⟨g1, g2, _⟩ := h.kind f hf
    exact (mayFx_bind g2 g1).2.2.2.2.1)
  have h2 := h.len
  unfold allN
  rw [List.length_append, List.length_cons, List.length_nil]
  omega
end Go.Proofs.YtkomocgodljecaaGreatDoor
