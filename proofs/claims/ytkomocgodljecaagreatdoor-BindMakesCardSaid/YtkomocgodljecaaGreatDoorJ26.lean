/- Lemmas, laid together: part 26 of 40. Conditions: none but each lemma's own. -/
import Derived.Test.YtkomocgodljecaaGreatDoorJ17
import Derived.Test.YtkomocgodljecaaGreatDoorJ8
import Derived.Test.YtkomocgodljecaaGreatDoorJ22
import Derived.Test.YtkomocgodljecaaGreatDoorJ25
import Derived.Test.YtkomocgodljecaaGreatDoorJ19
/- Plain: the stream of binds that is made. No program in sight. -/
namespace Go.Proofs.YtkomocgodljecaaGreatDoor
open Go.RowKit
set_option maxRecDepth 100000

/-- A bind's ordinal, where another one was set. -/
def ordN (was o : Int) : List UInt8 := if o = was then [] else if o < 0 then [UInt8.ofNat (64 + o).toNat] else if o ≤ 15 then [UInt8.ofNat (16 + o).toNat] else 32 :: putU o.toNat
/-- Its symbol. -/
def symN (ws : ByteArray) (ww : Bool) (f : Fx) : List UInt8 := if f.sym = ws ∧ f.weak = ww then [] else (if f.weak = true then 65 else 64) :: (f.sym.data.toList ++ [0])
/-- Its addend. -/
def addN (wa : Int) (f : Fx) : List UInt8 := if f.add = wa then [] else 96 :: putS f.add
/-- Its place. -/
def plcN (ls : List Seg) (first : Bool) (wat : Int) (f : Fx) : List UInt8 :=
  if first = false ∧ f.at_ = wat then [] else UInt8.ofNat (112 + (idxI (atS ls f.at_)).toNat) :: putU (f.at_ - (ls.getD (idxI (atS ls f.at_)).toNat .zero).addr).toNat
/-- What is bound next, behind a bind. -/
def nxtN (f : Fx) : Fx := { f with at_ := IntKind.u64.wrap (f.at_ + 8) }
def grpN (ls : List Seg) (first : Bool) (now f : Fx) : List UInt8 := ordN now.ord f.ord ++ (symN now.sym now.weak f ++ (addN now.add f ++ (plcN ls first now.at_ f ++ [144])))
def mkN (ls : List Seg) : Bool → Fx → List Fx → List UInt8
  | _, _, [] => []
  | first, now, f :: r => grpN ls first now f ++ mkN ls false (nxtN f) r
/-- Ahead of all binds. -/
def now0 (K : Int) : Fx := ⟨0, 2, 0, if K = 2 then -3 else 0, ⟨#[]⟩, 0, false⟩
/-- Behind k binds. -/
def nowN (K : Int) (S : List Fx) (k : Nat) : Fx := if k = 0 then now0 K else nxtN (S.getD (k - 1) Fx.zero)
def allN (ls : List Seg) (K : Int) (S : List Fx) : List UInt8 := mkN ls true (now0 K) S ++ [0]
theorem ordN_len (a b : Int) : (ordN a b).length ≤ 11 := by
  unfold ordN
  split
  · simp
  · split
    · simp
    · split
      · simp
      · simp only [List.length_cons]; exact Nat.succ_le_succ (putUf_length 9 _).1
theorem symN_len (ws : ByteArray) (ww : Bool) (f : Fx) (h : f.sym.size ≤ 255) : (symN ws ww f).length ≤ 257 := by
  unfold symN
  have : f.sym.data.toList.length = f.sym.size := by rw [Array.length_toList]; rfl
  split
  · simp
  · simp only [List.length_cons, List.length_append, List.length_nil]; omega
theorem addN_len (a : Int) (f : Fx) : (addN a f).length ≤ 11 := by
  unfold addN
  split
  · simp
  · simp only [List.length_cons]; exact Nat.succ_le_succ (putSf_length 9 _).1
theorem plcN_len (ls : List Seg) (b : Bool) (a : Int) (f : Fx) : (plcN ls b a f).length ≤ 11 := by
  unfold plcN
  split
  · simp
  · simp only [List.length_cons]; exact Nat.succ_le_succ (putUf_length 9 _).1
theorem drop_getF {S : List Fx} {k : Nat} (h : k < S.length) : S.drop k = S.getD k Fx.zero :: S.drop (k + 1) := by
  rw [List.drop_eq_getElem_cons h, List.getD_eq_getElem?_getD, List.getElem?_eq_getElem h]
  rfl
/-- Between two binds of the loop: k are told. -/
structure BkI (ls : List Seg) (K : Int) (S : List Fx) (k : Nat) (out : List UInt8) : Prop where
  le : k ≤ S.length
  eq : out ++ mkN ls (decide (k = 0)) (nowN K S k) (S.drop k) = mkN ls true (now0 K) S
  n : out.length ≤ 300 * k
theorem BkI.zero (ls : List Seg) (K : Int) (S : List Fx) : BkI ls K S 0 [] := ⟨Nat.zero_le _, rfl, Nat.zero_le _⟩
theorem nowN_succ (K : Int) (S : List Fx) (k : Nat) : nowN K S (k + 1) = nxtN (S.getD k Fx.zero) := by
  unfold nowN
  rw [if_neg (by omega), Nat.add_sub_cancel]
theorem BkI.step {ls : List Seg} {K : Int} {S : List Fx} {k : Nat} {out : List UInt8} (h : BkI ls K S k out) (hk : k < S.length) {x : Fx} (hx : x = S.getD k Fx.zero) (hs : x.sym.size ≤ 255) :
    BkI ls K S (k + 1) (out ++ ordN (nowN K S k).ord x.ord ++ symN (nowN K S k).sym (nowN K S k).weak x ++ addN (nowN K S k).add x ++ plcN ls (decide (k = 0)) (nowN K S k).at_ x ++ [144]) := by
  refine ⟨hk, ?_, ?_⟩
  · rw [← h.eq, drop_getF hk, ← hx, nowN_succ, ← hx, show decide (k + 1 = 0) = false by simp]
    show _ = out ++ (grpN ls _ (nowN K S k) x ++ mkN ls false (nxtN x) (S.drop (k + 1)))
    unfold grpN
    simp only [List.append_assoc]
  · have h1 := ordN_len (nowN K S k).ord x.ord
    have h2 := symN_len (nowN K S k).sym (nowN K S k).weak x hs
    have h3 := addN_len (nowN K S k).add x
    have h4 := plcN_len ls (decide (k = 0)) (nowN K S k).at_ x
    have h5 := h.n
    simp only [List.length_append, List.length_cons, List.length_nil]
    omega
theorem BkI.all {ls : List Seg} {K : Int} {S : List Fx} {out : List UInt8} (h : BkI ls K S S.length out) : out ++ [0] = allN ls K S := by
  have := h.eq
  rw [List.drop_eq_nil_of_le (Nat.le_refl _)] at this
  have e : ∀ b n, mkN ls b n [] = [] := fun _ _ => rfl
  rw [e, List.append_nil] at this
  rw [this]
  rfl
end Go.Proofs.YtkomocgodljecaaGreatDoor
/- Plain: what holds of binds that may be made; bytes of opcodes. -/
namespace Go.Proofs.YtkomocgodljecaaGreatDoor
open Go.RowKit
set_option maxRecDepth 100000

/-- What holds of binds that may be made. -/
structure MayB (K : Int) (nd : Nat) (ls : List Seg) (S : List Fx) : Prop where
  k : 1 ≤ K ∧ K ≤ 3
  meet : meetF S = false
  kind : ∀ f ∈ S, f.kind = 2 ∧ mayFx f = true ∧ (K = 2 → f.ord = -3)
  ord : ∀ f ∈ S, f.ord ≤ nd
  len : S.length ≤ 20000
  wr : ∀ f ∈ S, writS ls f.at_ 8 = true
theorem mayBE_zero {K : Int} {nd : Nat} {ls : List Seg} {S : List Fx} (h : mayBE K nd ls S = 0) : MayB K nd ls S := by
  unfold mayBE at h
  split at h
  · exact absurd h (by decide)
  rename_i c1
  split at h
  · exact absurd h (by decide)
  rename_i c2
  split at h
  · exact absurd h (by decide)
  rename_i c3
  split at h
  · exact absurd h (by decide)
  rename_i c4
  split at h
  · exact absurd h (by decide)
  rename_i c5
  rw [Bool.not_eq_true, List.any_eq_false] at c2 c3 c5
  have m1 : meetF S = false := by
    cases hm : meetF S with
    | false => rfl
    | true => exact absurd (.inr (.inr hm)) c1
  have k1 : 1 ≤ K ∧ K ≤ 3 := by
    constructor
    · exact Int.not_lt.1 fun h => c1 (.inl h)
    · exact Int.not_lt.1 fun h => c1 (.inr (.inl h))
  refine ⟨k1, m1, fun f hf => ?_, fun f hf => ?_, by omega, fun f hf => ?_⟩
  · have h0 := c2 f hf
    unfold badB at h0
    simp only [Bool.or_eq_true, not_or, decide_eq_true_eq, Bool.not_eq_true', Bool.not_eq_false, Bool.and_eq_true, not_and, Decidable.not_not] at h0
    exact ⟨h0.1, by simpa using h0.2.1, h0.2.2⟩
  · have h0 := c3 f hf
    simpa using h0
  · have h0 := c5 f hf
    simpa using h0
theorem mayFx_bind {f : Fx} (h : mayFx f = true) (hk : f.kind = 2) : f.tgt = 0 ∧ -3 ≤ f.ord ∧ f.ord ≤ 64 ∧ f.sym.toList ≠ [] ∧ f.sym.size ≤ 255 ∧ ¬ 0 ≤ Lib.indexByte f.sym.data.toList 0 := by
  unfold mayFx at h
  rw [if_neg (by omega), if_pos hk, Bool.and_eq_true, decide_eq_true_eq, Bool.not_eq_true', decide_eq_false_iff_not] at h
  exact ⟨h.1.1, h.1.2.1, h.1.2.2.1, h.1.2.2.2.1, h.1.2.2.2.2, h.2⟩
theorem orB16 (i : Nat) (h : i < 16) : bits .or .u8 16 (i : Int) = ((16 + i : Nat) : Int) := by
  have : i = 0 ∨ i = 1 ∨ i = 2 ∨ i = 3 ∨ i = 4 ∨ i = 5 ∨ i = 6 ∨ i = 7 ∨ i = 8 ∨ i = 9 ∨ i = 10 ∨ i = 11 ∨ i = 12 ∨ i = 13 ∨ i = 14 ∨ i = 15 := by omega
  rcases this with rfl | rfl | rfl | rfl | rfl | rfl | rfl | rfl | rfl | rfl | rfl | rfl | rfl | rfl | rfl | rfl <;> decide
theorem orB112 (i : Nat) (h : i < 16) : bits .or .u8 112 (IntKind.u8.wrap (i : Int)) = ((112 + i : Nat) : Int) := by
  have : i = 0 ∨ i = 1 ∨ i = 2 ∨ i = 3 ∨ i = 4 ∨ i = 5 ∨ i = 6 ∨ i = 7 ∨ i = 8 ∨ i = 9 ∨ i = 10 ∨ i = 11 ∨ i = 12 ∨ i = 13 ∨ i = 14 ∨ i = 15 := by omega
  rcases this with rfl | rfl | rfl | rfl | rfl | rfl | rfl | rfl | rfl | rfl | rfl | rfl | rfl | rfl | rfl | rfl <;> decide
theorem u8_val (q : Nat) (h : q < 256) : [Value.int .u8 (q : Int)] = byteL.vals [UInt8.ofNat q] := by
  rw [Lay.vals_single]
  show [Value.int .u8 q] = [Value.int .u8 ((UInt8.ofNat q).toNat : Nat)]
  rw [UInt8.toNat_ofNat', Nat.mod_eq_of_lt h]
theorem u8_int (q : Nat) (h : q < 256) : (q : Int) = ((UInt8.ofNat q).toNat : Int) := by
  rw [UInt8.toNat_ofNat', Nat.mod_eq_of_lt h]
theorem getD_memF {S : List Fx} {k : Nat} (h : k < S.length) : S.getD k fxl.d ∈ S := by
  rw [List.getD_eq_getElem?_getD, List.getElem?_eq_getElem h]
  exact List.getElem_mem h
/-- Ahead of the first one and behind k. -/
theorem nowN_get (K : Int) (S : List Fx) (k : Nat) : nowN K S (k + 1) = nxtN (S.getD k fxl.d) := nowN_succ K S k
/-- How long the stream is between two binds, and within one. -/
theorem BkI.len {ls : List Seg} {K : Int} {nd : Nat} {S : List Fx} {k : Nat} {out : List UInt8} (h : BkI ls K S k out) (hM : MayB K nd ls S) : out.length ≤ 6000000 := by
  have h1 := h.n
  have h2 := h.le
  have h3 := hM.len
  omega
theorem len_ord {out : List UInt8} (a b : Int) (h : out.length ≤ 6000000) : (out ++ ordN a b).length ≤ 6000011 := by
  have := ordN_len a b
  rw [List.length_append]
  omega
theorem len_sym {out : List UInt8} (ws : ByteArray) (ww : Bool) (f : Fx) (hf : f.sym.size ≤ 255) (h : out.length ≤ 6000011) : (out ++ symN ws ww f).length ≤ 6000300 := by
  have := symN_len ws ww f hf
  rw [List.length_append]
  omega
theorem len_add {out : List UInt8} (a : Int) (f : Fx) (h : out.length ≤ 6000300) : (out ++ addN a f).length ≤ 6000400 := by
  have := addN_len a f
  rw [List.length_append]
  omega
theorem len_plc {out : List UInt8} (ls : List Seg) (b : Bool) (a : Int) (f : Fx) (h : out.length ≤ 6000400) : (out ++ plcN ls b a f).length ≤ 6000500 := by
  have := plcN_len ls b a f
  rw [List.length_append]
  omega
theorem len_app {out ms : List UInt8} {N : Nat} (h : out.length ≤ N) (hm : ms.length ≤ 1000) (hN : N ≤ 6001000) : (out.length + ms.length) * 1 ≤ 140737488355328 ∧ out.length + ms.length ≤ 9223372036854775807 := by
  omega
theorem orB48m (o : Int) (h1 : -3 ≤ o) (h2 : o < 0) : bits .or .u8 48 (o % 16) = 64 + o := by
  have : o = -3 ∨ o = -2 ∨ o = -1 := by omega
  rcases this with rfl | rfl | rfl <;> decide
theorem len_100 {out ms : List UInt8} {N : Nat} (h : out.length ≤ N) (hm : ms.length ≤ 1000) (hN : N ≤ 7000000) : (out ++ ms).length ≤ 100000000 := by
  rw [List.length_append]
  omega
theorem len_1 {out : List UInt8} {N : Nat} (h : out.length ≤ N) (x : UInt8) : (out ++ [x]).length ≤ N + 1 := by
  rw [List.length_append]
  exact Nat.succ_le_succ h
theorem putU_1000 (n : Nat) : (putU n).length ≤ 1000 := Nat.le_trans (putUf_length 9 n).1 (by decide)
theorem putS_1000 (n : Int) : (putS n).length ≤ 1000 := Nat.le_trans (putSf_length 9 n).1 (by decide)
theorem sym_len {s : ByteArray} (h : s.size ≤ 255) : s.data.toList.length ≤ 1000 := by
  have : s.data.toList.length = s.size := by rw [Array.length_toList]; rfl
  omega
theorem one_1000 (x : UInt8) : ([x] : List UInt8).length ≤ 1000 := by
  show 1 ≤ 1000
  decide
theorem sym_ne {a b : ByteArray} (h : ¬ a = b) : ¬ a.toList = b.toList := fun e => h (by rw [Lib.toList_data, Lib.toList_data] at e; exact ByteArray.ext (Array.toList_inj.1 e))
/-- Where 8 bytes may be written. -/
theorem wr_factsB {ls : List Seg} {A : Int} (h : writS ls A 8 = true) : ∃ k, atS ls A = some k ∧ k < ls.length ∧ (ls.getD k .zero).addr ≤ A ∧ A - (ls.getD k .zero).addr + 8 ≤ (ls.getD k .zero).size := by
  unfold writS at h
  cases hk : atS ls A with
  | none => rw [hk] at h; exact absurd (show false = true from h) (by decide)
  | some k =>
    rw [hk] at h
    have h1 := idx_true Seg.zero hk
    unfold inS at h1
    simp only [Bool.and_eq_true, decide_eq_true_eq, Bool.not_eq_true'] at h h1
    exact ⟨k, rfl, idx_lt hk, h1.2.1, by omega⟩
end Go.Proofs.YtkomocgodljecaaGreatDoor
/- Steps of a drawn region on rows of bytes: a slice of one built, a row and a string appended. -/
namespace Go.Proofs.YtkomocgodljecaaGreatDoor
open Go.RowKit
set_option maxRecDepth 100000

theorem armBsV {P : Program} {T E : TypeId} {o : Oper} {a : Act} {w : World} {K : Act → World → Prop} {Q : Exit → Act → World → Prop} {tm : Nat → Option Bool} (hgd : o.guard = none) (s : Operand) (ho : o.op = .buildSlice T 1 #[(0, s)]) (v : Value)
    (hr : ∀ w, (Instr.buildSlice T 1 #[(0, v)]).run P w = .ok (.slice (some ⟨w.heap.size, 0, none⟩) 1 1) (w.alloc (.cells #[v] E))) (hs : a.eval s = v)
    (h : K (a.put o.dst (.slice (some ⟨w.heap.size, 0, none⟩) 1 1)) (w.alloc (.cells #[v] E))) : if Region.wanted o tm = true then Oper.wp P o a w K Q else K (a.put o.dst undef) w := by
  rw [if_pos (by simp [Region.wanted, hgd])]
  have hrw := hr w
  unfold Oper.wp execOp
  simp only [ho, List.map_toArray, List.map_cons, List.map_nil, hs, Sem.run_bind, hrw, Result.andThen_ok, Sem.run_pure]
  exact h
theorem bs_u8 (x : Int) (w : World) : (Instr.buildSlice 34 1 #[(0, .int .u8 x)]).run Tryz.prog w = .ok (.slice (some ⟨w.heap.size, 0, none⟩) 1 1) (w.alloc (.cells #[.int .u8 x] 5)) := by
  go_simp
theorem run_app_str (w : World) (ty : TypeId) (base : Nat) (v : Value) (l : List UInt8) (hown : BB w base v l) (s : ByteArray) (hle : l.length + s.size ≤ 140737488355328) (hbase : base ≤ w.heap.size) :
    ∃ v' w', (Builtin.append_ #[34, 9] ty #[v, .string s]).run Tryz.prog w = .ok v' w' ∧ BB w' base v' (l ++ s.data.toList) ∧ w.grownBy w' v.ownBlock ∧ (v'.ownBlock = v.ownBlock ∨ v'.ownBlock = some w.heap.size) := by
  obtain ⟨i, z, hi, hz, hz1, hz2, hz3⟩ := Tryz.infoByte.i
  replace hz1 : i.size = 1 := hz1
  have hz' : i.zero = some (.int .u8 0) := by
    have e : (Tryz.prog.info? 5).map (fun i => i.zero) = some (some (.int .u8 0)) := by kernel_rfl
    rw [hi] at e
    simpa using e
  have hy := hown
  unfold BB Lay.Buf at hy
  have hm : l.length + s.size ≤ maxLen := by unfold maxLen; omega
  obtain ⟨v', w', hr, h2, h3, _⟩ := Lib.run_append_own_string (P := Tryz.prog) w base 34 9 ty 5 i Tryz.infoByte.u Tryz.uStr hi hz' hz1 hz2 v l.length (byteL.vals l) hy s hm hle hbase
  have h4 : BB w' base v' (l ++ s.data.toList) := by
    unfold BB Lay.Buf
    rw [Lay.vals_append, List.length_append, str_len, ← str_vals]
    exact h2
  have h5 : v'.ownBlock = v.ownBlock ∨ v'.ownBlock = some w.heap.size := by
    rcases hy.2 with ⟨rfl, h0⟩ | ⟨g, cap, cur, rfl, hbg, hg, hnc, hcm, hcs, htake⟩
    · by_cases hm0 : s.size = 0
      · have hb := h2.2
        rcases hb with ⟨rfl, _⟩ | ⟨g, cap, cur, rfl, _, _, _, _, _, _⟩
        · exact .inl rfl
        · exfalso
          have hf := Lib.run_firstCells_string (P := Tryz.prog) w 1 s
          have hn : Lib.strCells s = [] := List.eq_nil_of_length_eq_zero (by rw [Lib.strCells_length]; exact hm0)
          rw [hm0, hn] at hf
          simp [Builtin.append_, run_underlying Tryz.infoByte.u, run_underlying Tryz.uStr, sizeOf, typeInfo, hi, hz1, Builtin.lenOf, hm0, hf] at hr
      · have hq := run_append_nil_string (P := Tryz.prog) w 34 9 ty 5 i (.int .u8 0) Tryz.infoByte.u Tryz.uStr hi hz' s (by omega) (by omega) (by rw [hz2]; omega)
        rw [hq] at hr
        cases hr
        exact .inr rfl
    · by_cases hroom : l.length + s.size ≤ cap
      · have hcs' : cur.size = cap := by rw [show byteL.n = 1 from rfl, Nat.mul_one] at hcs; exact hcs
        have hq := Lib.run_append_room_string (P := Tryz.prog) w 34 9 ty 5 i Tryz.infoByte.u Tryz.uStr hi hz1 g l.length cap cur hg s hroom (by omega)
        rw [hq] at hr
        cases hr
        exact .inl rfl
      · have hxl : (byteL.vals l).length = l.length := by rw [Lay.vals_len]; exact Nat.mul_one _
        have holds : ∀ j u, (byteL.vals l)[j]? = some u → w.cell? ((⟨g, 0, none⟩ : Addr).add j) = some u := hy.cells (g := g) rfl
        have hq := Lib.run_append_grow_string (P := Tryz.prog) w 34 9 ty 5 i (.int .u8 0) Tryz.infoByte.u Tryz.uStr hi hz' ⟨g, 0, none⟩ l.length cap (byteL.vals l) (by rw [hz1, Nat.mul_one]; exact hxl) holds s (by omega) (by omega) (by rw [hz2]; exact growslice_fits (by omega) (by omega))
        rw [hq] at hr
        cases hr
        exact .inr rfl
  exact ⟨v', w', hr, h4, h3, h5⟩
theorem armStr {o : Oper} {a : Act} {w : World} {K : Act → World → Prop} {Q : Exit → Act → World → Prop} {tm : Nat → Option Bool} (hgd : o.guard = none) (sl x : Operand) (ho : o.op = .call { callee := .builtin .append, args := #[sl, x], argTypes := #[34, 9] })
    (base : Nat) (v : Value) (l : List UInt8) (hs : a.eval sl = v) (hown : BB w base v l) (s : ByteArray) (hx : a.eval x = .string s) (hle : l.length + s.size ≤ 140737488355328) (hbase : base ≤ w.heap.size)
    (h : ∀ v' w', BB w' base v' (l ++ s.data.toList) → w.grownBy w' v.ownBlock → (v'.ownBlock = v.ownBlock ∨ v'.ownBlock = some w.heap.size) → K (a.put o.dst v') w') : if Region.wanted o tm = true then Oper.wp Tryz.prog o a w K Q else K (a.put o.dst undef) w := by
  rw [if_pos (by simp [Region.wanted, hgd])]
  obtain ⟨v', w', hr, h1, h2, h3⟩ := run_app_str w o.type base v l hown s hle hbase
  unfold Oper.wp execOp
  simp only [ho, resolve, invoke, builtin, Sem.run_bind, Sem.run_pure, Result.andThen_ok, List.map_toArray, List.map_cons, List.map_nil, hs, hx, hr]
  exact h _ _ h1 h2 h3
/-- A slice of one byte, beside a row that it does not share. -/
def Bit (g c : Nat) (x : UInt8) (v : Value) (w : World) : Prop := byteL.Rd w (.slice (some ⟨g, 0, none⟩) 1 c) [x] ∧ g < w.heap.size ∧ v.ownBlock ≠ some g
/-- A row of the call's own, ahead of which nothing is written. -/
structure Row (w0 : World) (base : Nat) (v : Value) (l : List UInt8) (w : World) : Prop where
  bb : BB w base v l
  sz : base ≤ w.heap.size
  lo : w0.heap.size ≤ base
  cg : Chg [] w0 w
theorem Row.pure {w0 w w' : World} {base : Nat} {v : Value} {l : List UInt8} (h : Row w0 base v l w) (k : Chg [] w w') : Row w0 base v l w' := ⟨h.bb.pure k, Nat.le_trans h.sz k.size, h.lo, h.cg.then k⟩
theorem Bit.pure {g c : Nat} {x : UInt8} {v : Value} {w w' : World} (h : Bit g c x v w) (k : Chg [] w w') : Bit g c x v w' := ⟨h.1.frame k, Nat.lt_of_lt_of_le h.2.1 k.size, h.2.2⟩
theorem Bit.new {w0 w : World} {base : Nat} {v : Value} {l : List UInt8} (h : Row w0 base v l w) (x : UInt8) (z : Int) (hz : z = (x.toNat : Int)) : Bit w.heap.size 1 x v (w.alloc (.cells #[.int .u8 z] 5)) := by
  subst hz
  refine ⟨Lay.Rd.of_heap (ls := [x]) (heap_alloc_eq _ _) rfl rfl (show 1 ≤ maxLen by decide), by simp, fun e => ?_⟩
  have := (h.bb.lt _ e).2
  omega
theorem Row.grown {w0 w w' : World} {base : Nat} {v v' : Value} {l l' : List UInt8} (h : Row w0 base v l w) (hb : BB w' base v' l') (hg : w.grownBy w' v.ownBlock) : Row w0 base v' l' w' := by
  have k := Lay.chg_grown hg
  refine ⟨hb, Nat.le_trans h.sz k.size, h.lo, h.cg.trans k (fun i hi hw => ?_)⟩
  have := (h.bb.lt i (by simpa using hi)).1
  have := h.lo
  omega
theorem Bit.grown {g c : Nat} {x : UInt8} {v v' : Value} {w w' : World} (h : Bit g c x v w) (hg : w.grownBy w' v.ownBlock) (hl : v'.ownBlock = v.ownBlock ∨ v'.ownBlock = some w.heap.size) : Bit g c x v' w' := by
  have k := Lay.chg_grown hg
  refine ⟨h.1.frameS k (fun b hb hm => ?_), Nat.lt_of_lt_of_le h.2.1 k.size, fun e => ?_⟩
  · cases hb
    exact h.2.2 (by simpa using hm)
  · rcases hl with e2 | e2
    · exact h.2.2 (e2.symm.trans e)
    · rw [e2] at e
      have := h.2.1
      simp at e
      omega
section
variable {o : Oper} {a : Act} {w w0 : World} {K : Act → World → Prop} {Q : Exit → Act → World → Prop} {tm : Nat → Option Bool} {base : Nat} {v : Value} {l : List UInt8}
theorem armBit (hgd : o.guard = none) (s : Operand) (ho : o.op = .buildSlice 34 1 #[(0, s)]) (x : UInt8) (z : Int) (hz : z = (x.toNat : Int)) (hs : a.eval s = .int .u8 z) (hr : Row w0 base v l w)
    (h : ∀ w' g, Row w0 base v l w' → Bit g 1 x v w' → Chg [] w w' → K (a.put o.dst (.slice (some ⟨g, 0, none⟩) 1 1)) w') : if Region.wanted o tm = true then Oper.wp Tryz.prog o a w K Q else K (a.put o.dst undef) w :=
  armBsV hgd s ho (.int .u8 z) (bs_u8 z) hs (h _ _ (hr.pure ((Chg.refl [] w).alloc _)) (Bit.new hr x z hz) ((Chg.refl [] w).alloc _))
theorem armAppB (hgd : o.guard = none) (s x : Operand) (ho : o.op = .call { callee := .builtin .append, args := #[s, x], argTypes := #[34, 34] }) (hs : a.eval s = v) (hr : Row w0 base v l w) {g c : Nat} {y : UInt8} (hb : Bit g c y v w) (hx : a.eval x = .slice (some ⟨g, 0, none⟩) 1 c) (hl : l.length ≤ 1000)
    (h : ∀ v' w', Row w0 base v' (l ++ [y]) w' → (∀ g' c' y', Bit g' c' y' v w → Bit g' c' y' v' w') → K (a.put o.dst v') w') : if Region.wanted o tm = true then Oper.wp Tryz.prog o a w K Q else K (a.put o.dst undef) w :=
  Lay.armApp (L := byteL) Tryz.infoByte hgd s x ho base v l hs hr.bb ⟨g, 0, none⟩ 1 c hx [y] hb.1 (by simp; omega) (by simp; omega) hr.sz (fun v' w' h1 h2 h3 => h v' w' (hr.grown h1 h2) (fun _ _ _ hb' => hb'.grown h2 h3))
theorem armAppS (hgd : o.guard = none) (s x : Operand) (ho : o.op = .call { callee := .builtin .append, args := #[s, x], argTypes := #[34, 9] }) (hs : a.eval s = v) (hr : Row w0 base v l w) (t : ByteArray) (hx : a.eval x = .string t) (hl : l.length ≤ 1000) (ht : t.size ≤ 1000)
    (h : ∀ v' w', Row w0 base v' (l ++ t.data.toList) w' → (∀ g' c' y', Bit g' c' y' v w → Bit g' c' y' v' w') → K (a.put o.dst v') w') : if Region.wanted o tm = true then Oper.wp Tryz.prog o a w K Q else K (a.put o.dst undef) w :=
  armStr hgd s x ho base v l hs hr.bb t hx (by omega) hr.sz (fun v' w' h1 h2 h3 => h v' w' (hr.grown h1 h2) (fun _ _ _ hb' => hb'.grown h2 h3))
end
end Go.Proofs.YtkomocgodljecaaGreatDoor
