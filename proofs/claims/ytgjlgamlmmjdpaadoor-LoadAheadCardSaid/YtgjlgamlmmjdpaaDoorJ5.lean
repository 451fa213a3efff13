/- Lemmas, laid together: part 5 of 38. Conditions: none but each lemma's own. -/
import Derived.Test.YtgjlgamlmmjdpaaDoorJ4
import Derived.Test.YtgjlgamlmmjdpaaDoorProg
import Derived.Deep.CutRange
import Derived.StillTailTactics
import Derived.Handy
import Derived.Test.YtgjlgamlmmjdpaaDoorJ3
import Derived.Lib.Strings
import Derived.Laws.BitsAllLaws
import Derived.Lib.AppendStr
/- load: sizes, the least bytes of each known command. -/
namespace Go.Proofs.YtgjlgamlmmjdpaaDoor
open Go.RowKit
set_option maxRecDepth 100000

/-- How many bytes a known command has at least (0: it is not known). -/
def leastF (c : Int) : Int :=
  if c = 25 then 72 else if c = 34 ∨ c = 2147483682 then 48 else if c = 2 ∨ c = 12 ∨ c = 13 ∨ c = 2147483672 ∨ c = 2147483679 ∨ c = 2147483683 ∨ c = 2147483688 then 24 else if c = 2147483699 ∨ c = 2147483700 then 16 else 0
def sizesM (c : Int) : Option Value := if leastF c = 0 then none else some (.int .i64 (leastF c))
theorem Tryd.tSzs : Map.Ty (Map.intK .u32) Tryd.prog 76 (.int .i64 0) := ⟨25, 3, by kernel_rfl, by kernel_rfl, fun w => by kernel_rfl⟩
set_option maxHeartbeats 4000000 in
theorem sizes_any (w : World) : Calls Tryd.prog 21 #[] w fun e w' => ∃ b, e = .returned (.map (some b)) ∧ w.heap.size ≤ b ∧ Map.Is (Map.intK .u32) w' b sizesM ∧ Chg [] w w' := by
  go_enter Tryd.func21, Tryd.ntmps21
  go_wp2_with ((with_reducible refine Map.mkL (Map.intK .u32) 76 ?_); intro W2 bq ebq cbq mbq; replace ebq := Lib.hid ebq; replace cbq := Lib.hid cbq; replace mbq := Lib.hid mbq; refine Hid.out ?_)
  refine Lib.hid ?_
  go_wp2_with ((with_reducible refine Map.insL Tryd.tSzs (mbq.out) 2 (.int .i64 24) ?_ ?_ ?_ ?_); exact rfl; exact rfl; exact rfl; intro W3 cW3 mW3; replace cW3 := Lib.hid cW3; replace mW3 := Lib.hid mW3; refine Hid.out ?_)
  refine Lib.hid ?_
  go_wp2_with ((with_reducible refine Map.insL Tryd.tSzs (mW3.out) 12 (.int .i64 24) ?_ ?_ ?_ ?_); exact rfl; exact rfl; exact rfl; intro W4 cW4 mW4; replace cW4 := Lib.hid cW4; replace mW4 := Lib.hid mW4; refine Hid.out ?_)
  refine Lib.hid ?_
  go_wp2_with ((with_reducible refine Map.insL Tryd.tSzs (mW4.out) 13 (.int .i64 24) ?_ ?_ ?_ ?_); exact rfl; exact rfl; exact rfl; intro W5 cW5 mW5; replace cW5 := Lib.hid cW5; replace mW5 := Lib.hid mW5; refine Hid.out ?_)
  refine Lib.hid ?_
  go_wp2_with ((with_reducible refine Map.insL Tryd.tSzs (mW5.out) 25 (.int .i64 72) ?_ ?_ ?_ ?_); exact rfl; exact rfl; exact rfl; intro W6 cW6 mW6; replace cW6 := Lib.hid cW6; replace mW6 := Lib.hid mW6; refine Hid.out ?_)
  refine Lib.hid ?_
  go_wp2_with ((with_reducible refine Map.insL Tryd.tSzs (mW6.out) 34 (.int .i64 48) ?_ ?_ ?_ ?_); exact rfl; exact rfl; exact rfl; intro W7 cW7 mW7; replace cW7 := Lib.hid cW7; replace mW7 := Lib.hid mW7; refine Hid.out ?_)
  refine Lib.hid ?_
  go_wp2_with ((with_reducible refine Map.insL Tryd.tSzs (mW7.out) 2147483682 (.int .i64 48) ?_ ?_ ?_ ?_); exact rfl; exact rfl; exact rfl; intro W8 cW8 mW8; replace cW8 := Lib.hid cW8; replace mW8 := Lib.hid mW8; refine Hid.out ?_)
  refine Lib.hid ?_
  go_wp2_with ((with_reducible refine Map.insL Tryd.tSzs (mW8.out) 2147483672 (.int .i64 24) ?_ ?_ ?_ ?_); exact rfl; exact rfl; exact rfl; intro W9 cW9 mW9; replace cW9 := Lib.hid cW9; replace mW9 := Lib.hid mW9; refine Hid.out ?_)
  refine Lib.hid ?_
  go_wp2_with ((with_reducible refine Map.insL Tryd.tSzs (mW9.out) 2147483679 (.int .i64 24) ?_ ?_ ?_ ?_); exact rfl; exact rfl; exact rfl; intro WA cWA mWA; replace cWA := Lib.hid cWA; replace mWA := Lib.hid mWA; refine Hid.out ?_)
  refine Lib.hid ?_
  go_wp2_with ((with_reducible refine Map.insL Tryd.tSzs (mWA.out) 2147483683 (.int .i64 24) ?_ ?_ ?_ ?_); exact rfl; exact rfl; exact rfl; intro WB cWB mWB; replace cWB := Lib.hid cWB; replace mWB := Lib.hid mWB; refine Hid.out ?_)
  refine Lib.hid ?_
  go_wp2_with ((with_reducible refine Map.insL Tryd.tSzs (mWB.out) 2147483688 (.int .i64 24) ?_ ?_ ?_ ?_); exact rfl; exact rfl; exact rfl; intro WC cWC mWC; replace cWC := Lib.hid cWC; replace mWC := Lib.hid mWC; refine Hid.out ?_)
  refine Lib.hid ?_
  go_wp2_with ((with_reducible refine Map.insL Tryd.tSzs (mWC.out) 2147483699 (.int .i64 16) ?_ ?_ ?_ ?_); exact rfl; exact rfl; exact rfl; intro WD cWD mWD; replace cWD := Lib.hid cWD; replace mWD := Lib.hid mWD; refine Hid.out ?_)
  refine Lib.hid ?_
  go_wp2_with ((with_reducible refine Map.insL Tryd.tSzs (mWD.out) 2147483700 (.int .i64 16) ?_ ?_ ?_ ?_); exact rfl; exact rfl; exact rfl; intro WE cWE mWE; replace cWE := Lib.hid cWE; replace mWE := Lib.hid mWE; refine Hid.out ?_)
  refine Lib.hid ?_
  go_wp2
  go_ret
  have hsz : w.heap.size ≤ bq := by rw [ebq.out]; exact Nat.le_refl _
  refine ⟨bq, rfl, hsz, mWE.out.congr (fun k => ?_), ((((((((((((cbq.out.new cW3.out hsz).new cW4.out hsz).new cW5.out hsz).new cW6.out hsz).new cW7.out hsz).new cW8.out hsz).new cW9.out hsz).new cWA.out hsz).new cWB.out hsz).new cWC.out hsz).new cWD.out hsz).new cWE.out hsz)⟩
  simp only [Map.put, sizesM, leastF]
  by_cases h1 : k = 2147483700
  · simp [h1]
  by_cases h2 : k = 2147483699
  · simp [h2]
  by_cases h3 : k = 2147483688
  · simp [h3]
  by_cases h4 : k = 2147483683
  · simp [h4]
  by_cases h5 : k = 2147483679
  · simp [h5]
  by_cases h6 : k = 2147483672
  · simp [h6]
  by_cases h7 : k = 2147483682
  · simp [h7]
  by_cases h8 : k = 34
  · simp [h8]
  by_cases h9 : k = 25
  · simp [h9]
  by_cases ha : k = 13
  · simp [ha]
  by_cases hb : k = 12
  · simp [hb]
  by_cases hc : k = 2
  · simp [hc]
  simp [h1, h2, h3, h4, h5, h6, h7, h8, h9, ha, hb, hc]
end Go.Proofs.YtgjlgamlmmjdpaaDoor
/- Rows of bytes; chain.put. -/
namespace Go.Proofs.YtgjlgamlmmjdpaaDoor
open Go.RowKit
set_option maxRecDepth 100000

def byteL : Lay UInt8 := ⟨1, fun b => [.int .u8 b.toNat], 0, fun _ => rfl, by decide, fun x u hu => by
  simp only [List.mem_singleton] at hu
  subst hu
  rfl⟩
abbrev BB (w : World) (base : Nat) (v : Value) (l : List UInt8) : Prop := byteL.Buf 5 w base v l
theorem Tryd.infoByte : Lay.Info Tryd.prog 22 5 byteL.n 1 := Lay.Info.mk' (z := .int .u8 0) (by kernel_rfl) (by kernel_rfl) rfl
/-- A number's bytes, the lowest first. -/
def leB (n size : Nat) : List UInt8 := (List.range size).map fun i => UInt8.ofNat (n / 2 ^ (8 * i))
theorem leB_succ (n k : Nat) : leB n (k + 1) = leB n k ++ [UInt8.ofNat (n / 2 ^ (8 * k))] := by simp [leB, List.range_succ]
theorem leB_len (n k : Nat) : (leB n k).length = k := by simp [leB]
theorem byte_int (n f : Nat) : (((UInt8.ofNat (n / 2 ^ f)).toNat : Nat) : Int) = (n : Int) / 2 ^ f % 256 := by
  rw [UInt8.toNat_ofNat', Int.natCast_emod, Int.natCast_ediv, Int.natCast_pow]
  rfl
/-- Where a row that grew lies. -/
def Loc (w : World) (v v' : Value) : Prop := v'.ownBlock = v.ownBlock ∨ ∃ k, v'.ownBlock = some k ∧ w.heap.size ≤ k
end Go.Proofs.YtgjlgamlmmjdpaaDoor
/- Records: imports (printed by mkrecs.sh). -/
namespace Go.Proofs.YtgjlgamlmmjdpaaDoor
open Go.RowKit
set_option maxRecDepth 100000

/-- A record Imp. -/
structure Imp where
  ord : Int
  weak : Bool
  sym : ByteArray
  add : Int
def Imp.cells (s : Imp) : List Value := [.int .i64 s.ord, .bool s.weak, .string s.sym, .int .i64 s.add]
abbrev Imp.v (s : Imp) : Value := .agg #[.int .i64 s.ord, .bool s.weak, .string s.sym, .int .i64 s.add]
/-- Its numbers are of their kinds. -/
def Imp.wf (s : Imp) : Prop := (Lit.int .i64 s.ord).wf = true ∧ (Lit.int .i64 s.add).wf = true
def Imp.zero : Imp := ⟨0, false, ⟨#[]⟩, 0⟩
def impL : Lay Imp := ⟨4, Imp.cells, Imp.zero, fun _ => rfl, by decide, fun x u hu => by
  simp only [Imp.cells, List.mem_cons, List.not_mem_nil, or_false] at hu
  rcases hu with rfl | rfl | rfl | rfl <;> rfl⟩
theorem Imp.at {w : World} {b o : Nat} {s : Imp} (h : impL.In w b o s) : w.cell? ⟨b, o, none⟩ = some (.int .i64 s.ord) ∧ w.cell? ⟨b, o + 1, none⟩ = some (.bool s.weak) ∧ w.cell? ⟨b, o + 2, none⟩ = some (.string s.sym) ∧ w.cell? ⟨b, o + 3, none⟩ = some (.int .i64 s.add) :=
  ⟨h 0 (by decide), h 1 (by decide), h 2 (by decide), h 3 (by decide)⟩
theorem Imp.at0 {w : World} {b : Nat} {s : Imp} (h : impL.In w b 0 s) : w.cell? ⟨b, 0, none⟩ = some (.int .i64 s.ord) ∧ w.cell? ⟨b, 1, none⟩ = some (.bool s.weak) ∧ w.cell? ⟨b, 2, none⟩ = some (.string s.sym) ∧ w.cell? ⟨b, 3, none⟩ = some (.int .i64 s.add) := by
  obtain ⟨h0, h1, h2, h3⟩ := Imp.at h
  simp only [Nat.zero_add] at h1 h2 h3
  exact ⟨h0, h1, h2, h3⟩
theorem Imp.boxed (w : World) (s : Imp) (T : TypeId) : impL.In (w.alloc (.cells #[.int .i64 s.ord, .bool s.weak, .string s.sym, .int .i64 s.add] T)) w.heap.size 0 s := fun c _ => by
  rw [cell_of_heap (heap_alloc_eq w _), Nat.zero_add]
  exact List.getElem?_toArray ..
/-- A record in a block of its own: made, written, a field written. -/
theorem Imp.box (w : World) (s : Imp) (T : TypeId) : impL.Box (w.alloc (.cells #[.int .i64 s.ord, .bool s.weak, .string s.sym, .int .i64 s.add] T)) w.heap.size s := Lay.Box.of_alloc (L := impL) w s T
theorem Imp.boxAt (w : World) (s : Imp) (T : TypeId) {b : Nat} (hb : b = w.heap.size) : impL.Box (w.alloc (.cells #[.int .i64 s.ord, .bool s.weak, .string s.sym, .int .i64 s.add] T)) b s := by rw [hb]; exact Imp.box w s T
theorem Imp.put0 {w : World} {g : Nat} {y : Imp} (h : impL.Box w g y) (s : Imp) : impL.Box ((((w.setCell ⟨g, 0, none⟩ (.int .i64 s.ord)).setCell ⟨g, 1, none⟩ (.bool s.weak)).setCell ⟨g, 2, none⟩ (.string s.sym)).setCell ⟨g, 3, none⟩ (.int .i64 s.add)) g s := Lay.Box.put h s
theorem Imp.chg0 (w : World) (g : Nat) (s : Imp) : Chg [g] w ((((w.setCell ⟨g, 0, none⟩ (.int .i64 s.ord)).setCell ⟨g, 1, none⟩ (.bool s.weak)).setCell ⟨g, 2, none⟩ (.string s.sym)).setCell ⟨g, 3, none⟩ (.int .i64 s.add)) := Lay.setW_chg g s.cells w 0
theorem Imp.set_ord {w : World} {g : Nat} {s : Imp} (h : impL.Box w g s) (x : Int) : impL.Box (w.setCell ⟨g, 0, none⟩ (.int .i64 x)) g { s with ord := x } := Lay.Box.set h 0 _ _ rfl
theorem Imp.set_weak {w : World} {g : Nat} {s : Imp} (h : impL.Box w g s) (x : Bool) : impL.Box (w.setCell ⟨g, 1, none⟩ (.bool x)) g { s with weak := x } := Lay.Box.set h 1 _ _ rfl
theorem Imp.set_sym {w : World} {g : Nat} {s : Imp} (h : impL.Box w g s) (x : ByteArray) : impL.Box (w.setCell ⟨g, 2, none⟩ (.string x)) g { s with sym := x } := Lay.Box.set h 2 _ _ rfl
theorem Imp.set_add {w : World} {g : Nat} {s : Imp} (h : impL.Box w g s) (x : Int) : impL.Box (w.setCell ⟨g, 3, none⟩ (.int .i64 x)) g { s with add := x } := Lay.Box.set h 3 _ _ rfl
theorem Imp.c_ord {w : World} {b : Nat} {s : Imp} (h : impL.Box w b s) : w.cell? ⟨b, 0, none⟩ = some (.int .i64 s.ord) := by have := h.in 0 (by decide); rw [Nat.zero_add] at this; exact this
theorem Imp.c_weak {w : World} {b : Nat} {s : Imp} (h : impL.Box w b s) : w.cell? ⟨b, 1, none⟩ = some (.bool s.weak) := by have := h.in 1 (by decide); rw [Nat.zero_add] at this; exact this
theorem Imp.c_sym {w : World} {b : Nat} {s : Imp} (h : impL.Box w b s) : w.cell? ⟨b, 2, none⟩ = some (.string s.sym) := by have := h.in 2 (by decide); rw [Nat.zero_add] at this; exact this
theorem Imp.c_add {w : World} {b : Nat} {s : Imp} (h : impL.Box w b s) : w.cell? ⟨b, 3, none⟩ = some (.int .i64 s.add) := by have := h.in 3 (by decide); rw [Nat.zero_add] at this; exact this
theorem Imp.at0B {w : World} {b : Nat} {s : Imp} (h : impL.Box w b s) : w.cell? ⟨b, 0, none⟩ = some (.int .i64 s.ord) ∧ w.cell? ⟨b, 1, none⟩ = some (.bool s.weak) ∧ w.cell? ⟨b, 2, none⟩ = some (.string s.sym) ∧ w.cell? ⟨b, 3, none⟩ = some (.int .i64 s.add) := Imp.at0 h.in
theorem Imp.ext' {s r : Imp} (h0 : s.ord = r.ord) (h1 : s.weak = r.weak) (h2 : s.sym = r.sym) (h3 : s.add = r.add) : s = r := by
  cases s; cases r; simp only at h0 h1 h2 h3; subst h0 h1 h2 h3; rfl
instance : DecidableEq Imp := fun s r => decidable_of_iff (s.ord = r.ord ∧ s.weak = r.weak ∧ s.sym = r.sym ∧ s.add = r.add) ⟨fun h => Imp.ext' h.1 h.2.1 h.2.2.1 h.2.2.2, fun h => by rw [h]; exact ⟨rfl, rfl, rfl, rfl⟩⟩
theorem Imp.eqv (s r : Imp) : decide (s = r) = (decide (s.ord = r.ord) && (decide (s.weak = r.weak) && (decide (s.sym.toList = r.sym.toList) && (decide (s.add = r.add))))) := by
  have e : s = r ↔ (s.ord = r.ord ∧ s.weak = r.weak ∧ s.sym = r.sym ∧ s.add = r.add) := ⟨fun h => by rw [h]; exact ⟨rfl, rfl, rfl, rfl⟩, fun h => Imp.ext' h.1 h.2.1 h.2.2.1 h.2.2.2⟩
  have hsym : (s.sym.toList = r.sym.toList) = (s.sym = r.sym) := by rw [Lib.toList_data, Lib.toList_data]; exact propext ⟨fun e => ByteArray.ext (Array.toList_inj.1 e), fun e => by rw [e]⟩
  simp only [hsym, ← Bool.decide_and]
  exact decide_eq_decide.2 e
end Go.Proofs.YtgjlgamlmmjdpaaDoor
/- chain.bytes: an import's bytes (formats 1 and 2). -/
namespace Go.Proofs.YtgjlgamlmmjdpaaDoor
open Go.RowKit
set_option maxRecDepth 100000

def u64N (z : Int) : Nat := (z % 18446744073709551616).toNat
theorem u64N_lt (z : Int) : u64N z < 18446744073709551616 := by unfold u64N; omega
theorem u64N_int (z : Int) : ((u64N z : Nat) : Int) = z % 18446744073709551616 := by unfold u64N; omega
/-- An import's word of 4 bytes, its name at a place. -/
def impW (x : Imp) (name : Nat) : Nat := u64N x.ord % 256 + (if x.weak then 256 else 0) + name * 512
/-- An import's bytes, in the formats 1 and 2. -/
def impB (x : Imp) (name : Nat) (fmt : Int) : List UInt8 := leB (impW x name) 4 ++ (if fmt = 2 then leB (u64N x.add) 4 else [])
theorem or_disj (a b k p : Nat) (hp : p = 2 ^ k) (h : a < p) (h1 : a + b * p < 18446744073709551616) : bits .or .u64 (a : Int) ((b * p : Nat) : Int) = ((a + b * p : Nat) : Int) := by
  have e := Nat.two_pow_add_eq_or_of_lt (hp ▸ h) b
  rw [← hp, Nat.mul_comm] at e
  rw [u64_or_nat _ _ (by omega) (by omega), Nat.or_comm, ← e, Nat.add_comm]
end Go.Proofs.YtgjlgamlmmjdpaaDoor
/- append(b, s...) of a string, onto bytes of the call's own; where it lies. -/
namespace Go.Proofs.YtgjlgamlmmjdpaaDoor
open Go.RowKit
set_option maxRecDepth 100000

theorem byte_vals (l : List UInt8) : byteL.vals l = l.map fun b => Value.int .u8 b.toNat := by
  induction l with
  | nil => rfl
  | cons b r ih => rw [Lay.vals_cons, ih]; rfl
theorem str_vals (s : ByteArray) : Lib.strCells s = byteL.vals s.data.toList := by rw [byte_vals]; rfl
theorem str_len (s : ByteArray) : s.data.toList.length = s.size := by rw [Array.length_toList]; rfl
theorem Tryd.uStr : Tryd.prog.underlying 9 = some .string := by kernel_rfl
/-- The operation. -/
theorem app_str {w : World} {ops : Array Oper} {rest : List Oper} {o : Oper} {a : Act} {Q : Exit → Act → World → Prop} (hgd : o.guard = none) (sl x : Operand)
    (ho : o.op = .call { callee := .builtin .append, args := #[sl, x], argTypes := #[22, 9] }) (base : Nat) (v : Value) (l : List UInt8) (hs : a.eval sl = v) (hown : BB w base v l)
    (s : ByteArray) (hx : a.eval x = .string s) (hle : l.length + s.size ≤ 140737488355328) (hbase : base ≤ w.heap.size)
    (h : ∀ v' w', BB w' base v' (l ++ s.data.toList) → w.grownBy w' v.ownBlock → (v'.ownBlock = v.ownBlock ∨ v'.ownBlock = some w.heap.size) → wpList Tryd.prog ops Q rest (a.put o.dst v') w') : wpList Tryd.prog ops Q (o :: rest) a w := by
  refine wpList_plain hgd fun K hK => ?_
  obtain ⟨i, z, hi, hz, hz1, hz2, hz3⟩ := Tryd.infoByte.i
  replace hz1 : i.size = 1 := hz1
  have hz' : i.zero = some (.int .u8 0) := by
    have e : (Tryd.prog.info? 5).map (fun i => i.zero) = some (some (.int .u8 0)) := by kernel_rfl
    rw [hi] at e
    simpa using e
  have hy := hown
  unfold BB Lay.Buf at hy
  have hm : l.length + s.size ≤ maxLen := by unfold maxLen; omega
  obtain ⟨v', w', hr, h2, h3, _⟩ := Lib.run_append_own_string (P := Tryd.prog) w base 22 9 o.type 5 i Tryd.infoByte.u Tryd.uStr hi hz' hz1 hz2 v l.length (byteL.vals l) hy s hm hle hbase
  have h4 : BB w' base v' (l ++ s.data.toList) := by
    unfold BB Lay.Buf
    rw [Lay.vals_append, List.length_append, str_len, ← str_vals]
    exact h2
  have h5 : v'.ownBlock = v.ownBlock ∨ v'.ownBlock = some w.heap.size := by
    rcases hy.2 with ⟨rfl, h0⟩ | ⟨g, cap, cur, rfl, hbg, hg, hnc, hcm, hcs, htake⟩
    · by_cases hm0 : s.size = 0
      · have hb := h2.2
        rcases hb with ⟨rfl, _⟩ | ⟨g, cap, cur, rfl, _, _, _, _, _, _⟩
        · exact .inl rfl
        · exfalso
          have hf := Lib.run_firstCells_string (P := Tryd.prog) w 1 s
          have hn : Lib.strCells s = [] := List.eq_nil_of_length_eq_zero (by rw [Lib.strCells_length]; exact hm0)
          rw [hm0, hn] at hf
          simp [Builtin.append_, run_underlying Tryd.infoByte.u, run_underlying Tryd.uStr, sizeOf, typeInfo, hi, hz1, Builtin.lenOf, hm0, hf] at hr
      · have hq := run_append_nil_string (P := Tryd.prog) w 22 9 o.type 5 i (.int .u8 0) Tryd.infoByte.u Tryd.uStr hi hz' s (by omega) (by omega) (by rw [hz2]; omega)
        rw [hq] at hr
        cases hr
        exact .inr rfl
    · by_cases hroom : l.length + s.size ≤ cap
      · have hcs' : cur.size = cap := by rw [show byteL.n = 1 from rfl, Nat.mul_one] at hcs; exact hcs
        have hq := Lib.run_append_room_string (P := Tryd.prog) w 22 9 o.type 5 i Tryd.infoByte.u Tryd.uStr hi hz1 g l.length cap cur hg s hroom (by omega)
        rw [hq] at hr
        cases hr
        exact .inl rfl
      · have hxl : (byteL.vals l).length = l.length := by rw [Lay.vals_len]; exact Nat.mul_one _
        have holds : ∀ j u, (byteL.vals l)[j]? = some u → w.cell? ((⟨g, 0, none⟩ : Addr).add j) = some u := hy.cells (g := g) rfl
        have hq := Lib.run_append_grow_string (P := Tryd.prog) w 22 9 o.type 5 i (.int .u8 0) Tryd.infoByte.u Tryd.uStr hi hz' ⟨g, 0, none⟩ l.length cap (byteL.vals l) (by rw [hz1, Nat.mul_one]; exact hxl) holds s (by omega) (by omega) (by rw [hz2]; exact growslice_fits (by omega) (by omega))
        rw [hq] at hr
        cases hr
        exact .inr rfl
  unfold Oper.wp execOp
  simp only [ho, resolve, invoke, builtin, Sem.run_bind, Sem.run_pure, Result.andThen_ok, List.map_toArray, List.map_cons, List.map_nil, hs, hx, hr]
  exact hK _ _ (h v' w' h4 h3 h5)
end Go.Proofs.YtgjlgamlmmjdpaaDoor
/- chain.Stride, chain.Format and the document's. -/
namespace Go.Proofs.YtgjlgamlmmjdpaaDoor
open Go.RowKit
set_option maxRecDepth 100000

/-- The stride of a format. -/
def strideF (n : Int) : Int := if n = 12 then 8 else if n = 6 then 4 else if n = 2 then 4 else if n = 1 then 8 else 0

/-- Has an addend no room in 32 bits? -/
def bigA (x : Imp) : Bool := decide (2147483647 < x.add) || decide (x.add < -2147483648)
/-- The least format that has room for imports' addends. -/
def fmtN (l : List Imp) : Int := if l.any bigA then 3 else if l.any (fun x => decide (x.add ≠ 0)) then 2 else 1
theorem any_get {p : Imp → Bool} {l : List Imp} : l.any p = true ↔ ∃ j, j < l.length ∧ p (l.getD j .zero) = true := by
  rw [List.any_eq_true]
  constructor
  · rintro ⟨x, hx, hp⟩
    obtain ⟨j, hj, rfl⟩ := List.getElem_of_mem hx
    exact ⟨j, hj, by simpa [List.getD_eq_getElem?_getD, hj] using hp⟩
  · rintro ⟨j, hj, hp⟩
    rw [List.getD_eq_getElem?_getD, List.getElem?_eq_getElem hj] at hp
    exact ⟨_, List.getElem_mem hj, hp⟩
theorem any_no {p : Imp → Bool} {l : List Imp} (h : ∀ j, j < l.length → p (l.getD j .zero) = false) : l.any p = false := by
  cases e : l.any p with
  | false => rfl
  | true => obtain ⟨j, hj, hp⟩ := any_get.1 e; rw [h j hj] at hp; cases hp
theorem wrap32_big (x : Imp) : (x.add ≠ wrap64 (wrap32 x.add)) ↔ bigA x = true := by
  unfold bigA wrap32 wrap64
  simp only [Bool.or_eq_true, decide_eq_true_eq]
  omega
end Go.Proofs.YtgjlgamlmmjdpaaDoor
