/- Lemmas, laid together: part 1 of 41. Conditions: none but each lemma's own. -/
import Derived.WalkKit
import Derived.Deep.QuietTactic
import Derived.BigQuiet
import Derived.WalkLawsBesides
import Derived.WalkSpells
import Derived.Lib.Hide
import Derived.Test.YtkomocgodljecaaGreatDoorProg
import Derived.LaidEql
import Derived.Stop.Asserts
import Derived.RowKitTokens
import Derived.Test.YtkomocgodljecaaGreatDoorRows
import Derived.Test.YtkomocgodljecaaGreatDoorCards
import Derived.Test.YtkomocgodljecaaGreatDoorTie
import Derived.ChangeSame
import Derived.ChangeVars
import Derived.JoinedOf
import Derived.RowKit
import Derived.LaidLaws
import Derived.LaidHandle
import Derived.Stop.Joined
import Derived.ProofKit
import Derived.OpenShut
import Derived.ShutString
import Derived.ChangeOld
import Derived.SevenTiedAt
/- Plain lemmas on worlds: what a call leaves as it was (Chg), what a slice reads as (Rd). No program in sight. -/
namespace Go.Proofs.YtkomocgodljecaaGreatDoor
open Go.RowKit

theorem cell_of_heap {w : World} {b : Nat} {c : Array Value} {t : TypeId} {fz : Nat × Nat} (h : w.heap[b]? = some (.cells c t fz)) (j : Nat) : w.cell? ⟨b, j, none⟩ = c[j]? := by
  simp [World.cell?, h]
theorem frozen_of_heap {w : World} {b : Nat} {c : Array Value} {t : TypeId} (h : w.heap[b]? = some (.cells c t (0, 0))) (j : Nat) : w.frozen? ⟨b, j, none⟩ = false := by
  simp [World.frozen?, h]
theorem lt_of_heap {w : World} {b : Nat} {o : Obj} (h : w.heap[b]? = some o) : b < w.heap.size := (Array.getElem?_eq_some_iff.1 h).1
theorem heap_setCell {w : World} {b : Nat} {c : Array Value} {t : TypeId} {fz : Nat × Nat} (h : w.heap[b]? = some (.cells c t fz)) (j : Nat) (v : Value) :
    (w.setCell ⟨b, j, none⟩ v).heap[b]? = some (.cells (c.setIfInBounds j v) t fz) := by
  simp [World.setCell, Array.getElem?_modify, h]
theorem heap_setCell_ne {w : World} {a : Addr} {k : Nat} (h : k ≠ a.block) (v : Value) : (w.setCell a v).heap[k]? = w.heap[k]? := Below.heap_setCell w a v k h
theorem heap_alloc_lt {w : World} {k : Nat} (h : k < w.heap.size) (o : Obj) : (w.alloc o).heap[k]? = w.heap[k]? := Below.heap_alloc w o k h
theorem heap_alloc_eq (w : World) (o : Obj) : (w.alloc o).heap[w.heap.size]? = some o := heap_alloc_new w o

/-- w' is w, with new blocks, and with writes to blocks of S alone. -/
structure Chg (S : List Nat) (w w' : World) : Prop where
  os : w'.os = w.os
  tape : w'.tape = w.tape
  output : w'.output = w.output
  size : w.heap.size ≤ w'.heap.size
  block : ∀ k, k < w.heap.size → k ∉ S → w'.heap[k]? = w.heap[k]?

theorem Chg.refl (S : List Nat) (w : World) : Chg S w w := ⟨rfl, rfl, rfl, Nat.le_refl _, fun _ _ _ => rfl⟩
/-- Two steps; what the second writes is among S or new since the first world. -/
theorem Chg.trans {S S' : List Nat} {a b c : World} (h : Chg S a b) (k : Chg S' b c) (hs : ∀ i ∈ S', i < a.heap.size → i ∈ S) : Chg S a c :=
  ⟨k.os.trans h.os, k.tape.trans h.tape, k.output.trans h.output, Nat.le_trans h.size k.size, fun i hi hn =>
    (k.block i (Nat.lt_of_lt_of_le hi h.size) (fun hm => hn (hs i hm hi))).trans (h.block i hi hn)⟩
theorem Chg.then {S : List Nat} {a b c : World} (h : Chg S a b) (k : Chg [] b c) : Chg S a c := h.trans k (fun _ hm => by cases hm)
theorem Chg.same {S : List Nat} {a b c : World} (h : Chg S a b) (k : Chg S b c) : Chg S a c := h.trans k (fun _ hm _ => hm)
/-- The block that is written is new. -/
theorem Chg.new {S : List Nat} {a b c : World} {p : Nat} (h : Chg S a b) (k : Chg [p] b c) (hp : a.heap.size ≤ p) : Chg S a c :=
  h.trans k (fun i hm hi => by rw [List.mem_singleton] at hm; omega)
theorem Chg.mono {S S' : List Nat} {a b : World} (h : Chg S a b) (hs : ∀ i ∈ S, i < a.heap.size → i ∈ S') : Chg S' a b :=
  ⟨h.os, h.tape, h.output, h.size, fun i hi hn => h.block i hi (fun hm => hn (hs i hm hi))⟩
theorem Chg.add {S : List Nat} {a b : World} (h : Chg [] a b) : Chg S a b := h.mono (fun _ hm => by cases hm)
theorem Chg.alloc {S : List Nat} {a b : World} (h : Chg S a b) (o : Obj) : Chg S a (b.alloc o) :=
  h.then ⟨rfl, rfl, rfl, by simp, fun k hk _ => heap_alloc_lt hk o⟩
theorem Chg.drewN {S : List Nat} {a b : World} (h : Chg S a b) (n : Nat) : Chg S a (b.drewN n) := ⟨h.os, h.tape, h.output, h.size, h.block⟩
theorem Chg.drew {S : List Nat} {a b : World} (h : Chg S a b) : Chg S a b.drew := ⟨h.os, h.tape, h.output, h.size, h.block⟩
theorem Chg.setCell {S : List Nat} {a b : World} (h : Chg S a b) (p : Addr) (v : Value) (hp : p.block ∈ S ∨ a.heap.size ≤ p.block) : Chg S a (b.setCell p v) :=
  h.trans (S' := [p.block]) ⟨rfl, rfl, rfl, by simp, fun k _ hn => heap_setCell_ne (by simpa using hn) v⟩ (fun i hm hi => by
    rw [List.mem_singleton] at hm; subst hm; rcases hp with hp | hp
    · exact hp
    · omega)
theorem Chg.grown {S : List Nat} {a b c : World} {row : Option Nat} (h : Chg S a b) (g : b.grownBy c row) (hr : ∀ k, row = some k → k ∈ S ∨ a.heap.size ≤ k) : Chg S a c :=
  ⟨g.os.trans h.os, g.tape.trans h.tape, g.output.trans h.output, Nat.le_trans h.size g.size, fun i hi hn =>
    (g.block i (Nat.lt_of_lt_of_le hi h.size) (fun e => by rcases hr i e.symm with hm | hm; exact hn hm; omega)).trans (h.block i hi hn)⟩
theorem Chg.below {a b : World} (h : Chg [] a b) : Below a.heap.size a b := ⟨h.os, h.tape, h.output, h.size, fun k hk => h.block k hk (by simp)⟩
theorem Chg.heap {S : List Nat} {a b : World} (h : Chg S a b) {k : Nat} {o : Obj} (hk : a.heap[k]? = some o) (hn : k ∉ S) : b.heap[k]? = some o :=
  (h.block k (lt_of_heap hk) hn).trans hk
theorem Chg.cell {S : List Nat} {a b : World} (h : Chg S a b) {k j : Nat} {v : Value} (hk : a.cell? ⟨k, j, none⟩ = some v) (hn : k ∉ S) : b.cell? ⟨k, j, none⟩ = some v := by
  have hl : k < a.heap.size := World.block_lt_of_cell? a _ hk
  exact (World.cell?_of_block (h.block k hl hn)).trans hk

/-- w' is w, but for how many answers were drawn. -/
def Dr (w w' : World) : Prop := w'.heap = w.heap ∧ w'.os = w.os ∧ w'.tape = w.tape ∧ w'.output = w.output ∧ w.drawn ≤ w'.drawn
theorem Dr.refl (w : World) : Dr w w := ⟨rfl, rfl, rfl, rfl, Nat.le_refl _⟩
theorem Dr.trans {a b c : World} (h : Dr a b) (k : Dr b c) : Dr a c :=
  ⟨k.1.trans h.1, k.2.1.trans h.2.1, k.2.2.1.trans h.2.2.1, k.2.2.2.1.trans h.2.2.2.1, Nat.le_trans h.2.2.2.2 k.2.2.2.2⟩
theorem Dr.drewN {a b : World} (h : Dr a b) (n : Nat) : Dr a (b.drewN n) := h.trans ⟨rfl, rfl, rfl, rfl, Nat.le_add_right _ _⟩
theorem Dr.drew {a b : World} (h : Dr a b) : Dr a b.drew := h.trans ⟨rfl, rfl, rfl, rfl, Nat.le_add_right _ _⟩
theorem Dr.set {a b : World} (h : Dr a b) (p : Addr) (v : Value) : Dr (a.setCell p v) (b.setCell p v) := by
  obtain ⟨h1, h2, h3, h4, h5⟩ := h
  refine ⟨?_, h2, h3, h4, h5⟩
  simp only [World.setCell, h1]
theorem Dr.alloc {a b : World} (h : Dr a b) (o : Obj) : Dr (a.alloc o) (b.alloc o) := by
  obtain ⟨h1, h2, h3, h4, h5⟩ := h
  refine ⟨?_, h2, h3, h4, h5⟩
  simp only [World.alloc, h1]
theorem Dr.ex {a b : World} (h : Dr a b) : ∃ n, b = a.drewN n := by
  obtain ⟨h1, h2, h3, h4, h5⟩ := h
  refine ⟨b.drawn - a.drawn, ?_⟩
  cases a; cases b
  simp only [World.drewN, World.mk.injEq] at *
  exact ⟨h1, h3, by omega, h2, h4⟩
theorem Dr.cell {a b : World} (h : Dr a b) (p : Addr) : b.cell? p = a.cell? p := by simp only [World.cell?, h.1]
theorem Dr.frozen {a b : World} (h : Dr a b) (p : Addr) : b.frozen? p = a.frozen? p := by simp only [World.frozen?, h.1]
theorem Dr.heap {a b : World} (h : Dr a b) : b.heap = a.heap := h.1
theorem Chg.dr {S : List Nat} {a b c : World} (h : Chg S a b) (k : Dr b c) : Chg S a c := by
  obtain ⟨n, rfl⟩ := k.ex
  exact h.drewN n

/-- The slice value v of one-cell elements reads as xs. -/
def Rd (w : World) (v : Value) (xs : List Value) : Prop :=
  ∃ a n cap, v = .slice a n cap ∧ n = xs.length ∧ n ≤ cap ∧ cap ≤ maxLen ∧
    (xs ≠ [] → ∃ b off, a = some ⟨b, off, none⟩ ∧ ∀ j, j < xs.length → w.cell? ⟨b, off + j, none⟩ = xs[j]?)
/-- The block that a slice value lies in. -/
def Value.inBlock (v : Value) (b : Nat) : Prop := v.ownBlock = some b

theorem Rd.nil (w : World) : Rd w (.slice none 0 0) [] := ⟨none, 0, 0, rfl, rfl, Nat.le_refl _, Nat.zero_le _, fun h => absurd rfl h⟩
theorem Rd.frame {w w' : World} {v : Value} {xs : List Value} (h : Rd w v xs) {S : List Nat} (k : Chg S w w') (hn : ∀ b, v.ownBlock = some b → b ∉ S) : Rd w' v xs := by
  obtain ⟨a, n, cap, rfl, hl, hc, hc2, hx⟩ := h
  refine ⟨a, n, cap, rfl, hl, hc, hc2, fun hne => ?_⟩
  obtain ⟨b, off, rfl, hcell⟩ := hx hne
  refine ⟨b, off, rfl, fun j hj => ?_⟩
  obtain ⟨u, hu⟩ : ∃ u, xs[j]? = some u := ⟨_, List.getElem?_eq_getElem hj⟩
  rw [hu]
  exact k.cell ((hcell j hj).trans hu) (hn b rfl)
theorem Rd.drewN {w : World} {v : Value} {xs : List Value} (h : Rd w v xs) (n : Nat) : Rd (w.drewN n) v xs := h
theorem Rd.alloc {w : World} {v : Value} {xs : List Value} (h : Rd w v xs) (o : Obj) : Rd (w.alloc o) v xs := h.frame (S := []) ((Chg.refl [] w).alloc o) (fun _ _ hm => by cases hm)
theorem Rd.owned {w : World} {base : Nat} {e : TypeId} {v : Value} {n : Nat} {xs : List Value} (h : w.ownsRow base e 1 v n xs) : Rd w v xs := by
  obtain ⟨hl, hv⟩ := h
  rw [Nat.mul_one] at hl
  rcases hv with ⟨rfl, rfl⟩ | ⟨g, cap, cur, rfl, hb, hg, hnc, hcm, hcs, htake⟩
  · have : xs = [] := List.eq_nil_of_length_eq_zero hl
    subst this; exact Rd.nil w
  · refine ⟨_, _, _, rfl, hl.symm, hnc, hcm, fun _ => ⟨g, 0, rfl, fun j hj => ?_⟩⟩
    rw [Nat.zero_add, cell_of_heap hg, ← htake, List.getElem?_take, if_pos (by omega)]
    simp

def byteV (b : UInt8) : Value := .int .u8 b.toNat
def bytesV (l : List UInt8) : List Value := l.map byteV
theorem bytesV_length (l : List UInt8) : (bytesV l).length = l.length := by simp [bytesV]
theorem bytesV_get (l : List UInt8) (j : Nat) (h : j < l.length) : (bytesV l)[j]? = some (.int .u8 (l.getD j 0).toNat) := by simp [bytesV, byteV, h]
end Go.Proofs.YtkomocgodljecaaGreatDoor
/- errors.As at the target *api.Errno, of a *cursor.Wrong and of an api.Errno: closed facts on the model's entries for internal/reflectlite, and the two walks. After the guide's Derived/Test/ToyasAs.lean. -/
namespace Go.Proofs.YtkomocgodljecaaGreatDoor
open Go.RowKit Go.Extern.Stop Go.Stop Go.Extern

theorem Tryz.valueOfP (t : Addr) (w : World) : (ReflectliteValue.unpack (.iface 144 (.pointer (some t)))).run Tryz.prog w
    = .ok (.agg #[.pointer (some ⟨2, 144, none⟩), .pointer (some ⟨w.heap.size, 0, none⟩), .int .u64 150]) (w.alloc (.cells #[.pointer (some t)] 144)) := by kernel_rfl
theorem Tryz.typeP (a : Addr) (w : World) : (ReflectliteValue.methodAny (ReflectliteValue.valueError "reflectlite.Value.Type" 0) (fun t _ _ _ => ReflectliteType.toType t) #[.agg #[.pointer (some ⟨2, 144, none⟩), .pointer (some a), .int .u64 150]]).run Tryz.prog w
    = .ok (.iface 174 (.agg #[.pointer (some ⟨2, 144, none⟩)])) w := by kernel_rfl
theorem Tryz.methodKind (h : Value) (w : World) : (Go.method 314 174 (.agg #[h]) "Kind").run Tryz.prog w = .ok (154, h) w := by kernel_rfl
theorem Tryz.kindP (w : World) : ((ReflectliteType.abiMethod fun t => (fun a : Nat => Value.int IntKind.u8 (a : Int)) <$> Rtype.kind t) #[.pointer (some ⟨2, 144, none⟩)]).run Tryz.prog w = .ok (.int .u8 22) w := by kernel_rfl
theorem Tryz.kindE (w : World) : ((ReflectliteType.abiMethod fun t => (fun a : Nat => Value.int IntKind.u8 (a : Int)) <$> Rtype.kind t) #[.pointer (some ⟨2, 35, none⟩)]).run Tryz.prog w = .ok (.int .u8 2) w := by kernel_rfl
theorem rlm (z : Sem Value) (f : TypeId → Addr → Nat → Nat → Sem Value) (v : Value) :
    ReflectliteValue.method z f #[v] = (do match ← ReflectliteValue.parts v with | none => z | some (t, a, fl) => f t a fl (fl % 32)) := rfl
theorem Tryz.partsP (a : Addr) (w : World) : (ReflectliteValue.parts (.agg #[.pointer (some ⟨2, 144, none⟩), .pointer (some a), .int .u64 150])).run Tryz.prog w = .ok (some (144, a, 150)) w := by kernel_rfl
theorem Tryz.isNilP (a p : Addr) (W : World) (ha : W.cell? a = some (.pointer (some p))) :
    (ReflectliteValue.method (ReflectliteValue.valueError "reflectlite.Value.IsNil" 0) ReflectliteValue.isNil #[.agg #[.pointer (some ⟨2, 144, none⟩), .pointer (some a), .int .u64 150]]).run Tryz.prog W = .ok (.bool false) W := by
  rw [rlm]
  simp only [Sem.run_bind, Tryz.partsP, Result.andThen]
  simp [ReflectliteValue.isNil, loadVar, isAgg, underlying, Tryz.underlying144, ha, Result.andThen]
theorem Tryz.methodElem (h : Value) (w : World) : (Go.method 314 174 (.agg #[h]) "Elem").run Tryz.prog w = .ok (166, .agg #[h]) w := by kernel_rfl
theorem Tryz.methodImplements (h : Value) (w : World) : (Go.method 314 174 (.agg #[h]) "Implements").run Tryz.prog w = .ok (167, .agg #[h]) w := by kernel_rfl
theorem Tryz.methodAssignableTo (h : Value) (w : World) : (Go.method 314 174 (.agg #[h]) "AssignableTo").run Tryz.prog w = .ok (164, .agg #[h]) w := by kernel_rfl
theorem Tryz.elemP (w : World) : (ReflectliteType.method ReflectliteType.elem #[.agg #[.pointer (some ⟨2, 144, none⟩)]]).run Tryz.prog w = .ok (.iface 174 (.agg #[.pointer (some ⟨2, 35, none⟩)])) w := by kernel_rfl
theorem Tryz.implementsE (w : World) : (ReflectliteType.relation "Implements" ReflectliteType.implements_ #[.agg #[.pointer (some ⟨2, 35, none⟩)], .iface 174 (.agg #[.pointer (some ⟨2, 122, none⟩)])]).run Tryz.prog w = .ok (.bool true) w := by kernel_rfl
theorem Tryz.typeOfE (v : Value) (w : World) : (ReflectliteType.typeOf #[.iface 35 v]).run Tryz.prog w = .ok (.iface 174 (.agg #[.pointer (some ⟨2, 35, none⟩)])) w := by kernel_rfl
theorem Tryz.typeOfW (v : Value) (w : World) : (ReflectliteType.typeOf #[.iface 145 v]).run Tryz.prog w = .ok (.iface 174 (.agg #[.pointer (some ⟨2, 145, none⟩)])) w := by kernel_rfl
theorem Tryz.assignableE (w : World) : (ReflectliteType.relation "AssignableTo" ReflectliteType.assignableTo #[.agg #[.pointer (some ⟨2, 35, none⟩)], .iface 174 (.agg #[.pointer (some ⟨2, 35, none⟩)])]).run Tryz.prog w = .ok (.bool true) w := by kernel_rfl
theorem Tryz.assignableW (w : World) : (ReflectliteType.relation "AssignableTo" ReflectliteType.assignableTo #[.agg #[.pointer (some ⟨2, 145, none⟩)], .iface 174 (.agg #[.pointer (some ⟨2, 35, none⟩)])]).run Tryz.prog w = .ok (.bool false) w := by kernel_rfl
theorem Tryz.valueOfE (n : Int) (w : World) : (ReflectliteValue.unpack (.iface 35 (.int .i64 n))).run Tryz.prog w
    = .ok (.agg #[.pointer (some ⟨2, 35, none⟩), .pointer (some ⟨w.heap.size, 0, none⟩), .int .u64 130]) (w.alloc (.cells #[.int .i64 n] 35)) := by kernel_rfl
theorem Tryz.elemOfP (w : World) : (Rtype.elem? 144).run Tryz.prog w = .ok (some 35) w := by kernel_rfl
theorem Tryz.mkE (p : Addr) (w : World) : (ReflectliteValue.mk 35 p ReflectliteValue.flagAddr).run Tryz.prog w = .ok (.agg #[.pointer (some ⟨2, 35, none⟩), .pointer (some p), .int .u64 386]) w := by kernel_rfl
theorem Tryz.elemVP (a p : Addr) (W : World) (ha : W.cell? a = some (.pointer (some p))) :
    (ReflectliteValue.method (ReflectliteValue.valueError "reflectlite.Value.Elem" 0) ReflectliteValue.elem #[.agg #[.pointer (some ⟨2, 144, none⟩), .pointer (some a), .int .u64 150]]).run Tryz.prog W
      = .ok (.agg #[.pointer (some ⟨2, 35, none⟩), .pointer (some p), .int .u64 386]) W := by
  rw [rlm]
  simp only [Sem.run_bind, Tryz.partsP, Result.andThen]
  simp [ReflectliteValue.elem, loadVar, isAgg, underlying, Tryz.underlying144, ha, Result.andThen, Tryz.elemOfP, Tryz.mkE]
theorem rls (v x : Value) : ReflectliteValue.set #[v, x] = (do
    let (some (dst, a, fl), some (src, b, _)) := (← ReflectliteValue.parts v, ← ReflectliteValue.parts x)
      | unsupported (.noEntry "extern/(internal/reflectlite.Value).Set.zeroValue")
    if fl / ReflectliteValue.flagAddr % 2 == 0 then unsupported (.noEntry "extern/(internal/reflectlite.Value).Set.unaddressable")
    let val ← loadVar src b
    if ← Rtype.directlyAssignable dst src then storeVar dst a val
    else if ← Rtype.implements dst src then
      if (← Rtype.kind src) == 20 then
        match val with
        | .nilIface => unsupported (.noEntry "extern/reflectlite: a nil value of one interface type handed on as a value of another")
        | _ => storeVar dst a val
      else storeVar dst a (.iface src val)
    else panicString ("reflectlite.Set: value of type " ++ (← Rtype.spelt src) ++ " is not assignable to type " ++ (← Rtype.spelt dst))
    pure (.tuple #[])) := rfl
theorem Tryz.partsEa (a : Addr) (w : World) : (ReflectliteValue.parts (.agg #[.pointer (some ⟨2, 35, none⟩), .pointer (some a), .int .u64 386])).run Tryz.prog w = .ok (some (35, a, 386)) w := by kernel_rfl
theorem Tryz.partsE (a : Addr) (w : World) : (ReflectliteValue.parts (.agg #[.pointer (some ⟨2, 35, none⟩), .pointer (some a), .int .u64 130])).run Tryz.prog w = .ok (some (35, a, 130)) w := by kernel_rfl
theorem Tryz.directE (w : World) : (Rtype.directlyAssignable 35 35).run Tryz.prog w = .ok true w := by kernel_rfl
theorem Tryz.setE (ta b : Addr) (n : Int) (old : Value) (W : World) (hb : W.cell? b = some (.int .i64 n)) (ht : W.cell? ta = some old) (hf : W.frozen? ta = false) :
    (ReflectliteValue.set #[.agg #[.pointer (some ⟨2, 35, none⟩), .pointer (some ta), .int .u64 386], .agg #[.pointer (some ⟨2, 35, none⟩), .pointer (some b), .int .u64 130]]).run Tryz.prog W
      = .ok (.tuple #[]) (W.setCell ta (.int .i64 n)) := by
  rw [rls]
  simp only [Sem.run_bind, Tryz.partsEa, Tryz.partsE, Result.andThen]
  simp [ReflectliteValue.flagAddr, loadVar, isAgg, underlying, Tryz.underlying35, hb, Result.andThen, Tryz.directE, storeVar, Value.cells, storeCells, Addr.add]
  rw [run_store Tryz.prog W ta _ _ (by rfl)]
  simp [ht, hf]
end Go.Proofs.YtkomocgodljecaaGreatDoor
/- errors.As at the target *api.Errno: of a *cursor.Wrong: true, and its errno stands there. -/
namespace Go.Proofs.YtkomocgodljecaaGreatDoor
open Go.RowKit Go.Extern.Stop Go.Stop Go.Extern

/-- The one variable that errors.As reads. -/
def Env (w : World) : Prop := w.cell? ⟨1, 0, none⟩ = some (.iface 174 (.agg #[.pointer (some ⟨2, 122, none⟩)]))
theorem Env.pos {w : World} (h : Env w) : 1 < w.heap.size := World.block_lt_of_cell? w _ h
theorem Env.frame {w w' : World} (h : Env w) {S : List Nat} (k : Chg S w w') (hn : 1 ∉ S) : Env w' := k.cell h hn

theorem Tryz.noAs (v : Value) (xT : TypeId) (w : World) : (Instr.typeAssert (.iface 145 v) xT 179 true).run Tryz.prog w = .ok (.tuple #[.nilIface, .bool false]) w :=
  run_typeAssert_lacksB Tryz.underlying179 (by kernel_rfl) (by kernel_rfl) v xT w
theorem Tryz.hasUnwrap (v : Value) (xT : TypeId) (w : World) : (Instr.typeAssert (.iface 145 v) xT 182 true).run Tryz.prog w = .ok (.tuple #[.iface 145 v, .bool true]) w :=
  run_typeAssert_hasB Tryz.underlying182 (by kernel_rfl) v xT w
theorem Tryz.methodUnwrap (a : Addr) (w : World) : (Go.method 314 145 (.pointer (some a)) "Unwrap").run Tryz.prog w = .ok (159, .pointer (some a)) w := by kernel_rfl

theorem Unwrap_any (b : Nat) (at_ : Value) (n : Int) (w : World) (h : w.heap[b]? = some (.cells #[at_, .int .i64 n] 147 (0, 0))) :
    Calls Tryz.prog 159 #[.pointer (some ⟨b, 0, none⟩)] w fun e w' => e = .returned (.iface 35 (.int .i64 n)) ∧ w = w' := by
  have h1 := cell_of_heap h 1
  clear h
  simp at h1
  go_enter Tryz.func159, Tryz.ntmps159
  go_wp2
  go_ret
  exact ⟨rfl, rfl⟩

set_option maxRecDepth 100000 in
set_option maxHeartbeats 4000000 in
theorem as_wrong (b : Nat) (t : Nat) (at_ : Value) (n : Int) (old : Value) (w : World) (hg : Env w) (ht : w.heap[t]? = some (.cells #[old] 35 (0, 0))) (hb : w.heap[b]? = some (.cells #[at_, .int .i64 n] 147 (0, 0))) :
    Calls Tryz.prog 118 #[.iface 145 (.pointer (some ⟨b, 0, none⟩)), .iface 144 (.pointer (some ⟨t, 0, none⟩))] w fun ev w' => ev = .returned (.bool true) ∧ w'.heap[t]? = some (.cells #[.int .i64 n] 35 (0, 0)) ∧ Chg [t] w w' := by
  have hVO := @run_callFunc_extern Tryz.prog 130 _ (fun args => ReflectliteValue.unpack (args.getD 0 (.tuple #[]))) Tryz.func130 (by kernel_rfl) (by kernel_rfl) (by kernel_rfl) (by kernel_rfl)
  have hVT := @run_callFunc_extern Tryz.prog 131 _ (ReflectliteValue.methodAny (ReflectliteValue.valueError "reflectlite.Value.Type" 0) (fun t _ _ _ => ReflectliteType.toType t)) Tryz.func131 (by kernel_rfl) (by kernel_rfl) (by kernel_rfl) (by kernel_rfl)
  have hVN := @run_callFunc_extern Tryz.prog 132 _ (ReflectliteValue.method (ReflectliteValue.valueError "reflectlite.Value.IsNil" 0) ReflectliteValue.isNil) Tryz.func132 (by kernel_rfl) (by kernel_rfl) (by kernel_rfl) (by kernel_rfl)
  have hTK := @run_callFunc_extern Tryz.prog 154 _ (ReflectliteType.abiMethod fun t => do pure (.int .u8 (← Rtype.kind t))) Tryz.func154 (by kernel_rfl) (by kernel_rfl) (by kernel_rfl) (by kernel_rfl)
  have hTE := @run_callFunc_extern Tryz.prog 166 _ (ReflectliteType.method ReflectliteType.elem) Tryz.func166 (by kernel_rfl) (by kernel_rfl) (by kernel_rfl) (by kernel_rfl)
  have hTI := @run_callFunc_extern Tryz.prog 167 _ (ReflectliteType.relation "Implements" ReflectliteType.implements_) Tryz.func167 (by kernel_rfl) (by kernel_rfl) (by kernel_rfl) (by kernel_rfl)
  have hTO := @run_callFunc_extern Tryz.prog 137 _ ReflectliteType.typeOf Tryz.func137 (by kernel_rfl) (by kernel_rfl) (by kernel_rfl) (by kernel_rfl)
  have hTA := @run_callFunc_extern Tryz.prog 164 _ (ReflectliteType.relation "AssignableTo" ReflectliteType.assignableTo) Tryz.func164 (by kernel_rfl) (by kernel_rfl) (by kernel_rfl) (by kernel_rfl)
  have hVE := @run_callFunc_extern Tryz.prog 138 _ (ReflectliteValue.method (ReflectliteValue.valueError "reflectlite.Value.Elem" 0) ReflectliteValue.elem) Tryz.func138 (by kernel_rfl) (by kernel_rfl) (by kernel_rfl) (by kernel_rfl)
  have hVS := @run_callFunc_extern Tryz.prog 139 _ ReflectliteValue.set Tryz.func139 (by kernel_rfl) (by kernel_rfl) (by kernel_rfl) (by kernel_rfl)
  have c1 := Tryz.typeOfE
  have c2 := Tryz.typeOfW
  have c3 := Tryz.methodAssignableTo
  have c4 := Tryz.assignableE
  have c5 := Tryz.assignableW
  have c6 := Tryz.valueOfE
  have c7 := Tryz.valueOfP
  have c8 := Tryz.typeP
  have c9 := Tryz.methodKind
  have c10 := Tryz.methodElem
  have c11 := Tryz.methodImplements
  have c12 := Tryz.kindP
  have c13 := Tryz.kindE
  have c14 := Tryz.elemP
  have c15 := Tryz.implementsE
  have c16 := Tryz.noAs
  have c17 := Tryz.hasUnwrap
  have c18 := Tryz.methodUnwrap
  have hlt : 1 < w.heap.size := hg.pos
  have htl : t < w.heap.size := lt_of_heap ht
  have hbl : b < w.heap.size := lt_of_heap hb
  have ht0 := cell_of_heap ht 0
  have hf0 := frozen_of_heap ht 0
  have hb1 := cell_of_heap hb 1
  simp only [List.getElem?_toArray, List.getElem?_cons_zero, List.getElem?_cons_succ] at ht0 hb1
  have n8 := Tryz.isNilP ⟨w.heap.size, 0, none⟩ ⟨t, 0, none⟩ ((w.alloc (.cells #[.pointer (some ⟨t, 0, none⟩)] 144)).alloc (.cells #[.pointer (some ⟨2, 144, none⟩), .pointer (some ⟨w.heap.size, 0, none⟩), .int .u64 150] 159)) (by simp)
  have hg2 : ((w.alloc (.cells #[.pointer (some ⟨t, 0, none⟩)] 144)).alloc (.cells #[.pointer (some ⟨2, 144, none⟩), .pointer (some ⟨w.heap.size, 0, none⟩), .int .u64 150] 159)).cell? ⟨1, 0, none⟩ = some (.iface 174 (.agg #[.pointer (some ⟨2, 122, none⟩)])) := by
    rw [World.cell?_alloc_lt _ _ ⟨1, 0, none⟩ (by simp <;> omega), World.cell?_alloc_lt _ _ ⟨1, 0, none⟩ hlt]; exact hg
  have el := Tryz.elemVP ⟨w.heap.size, 0, none⟩ ⟨t, 0, none⟩ (((w.alloc (.cells #[.pointer (some ⟨t, 0, none⟩)] 144)).alloc (.cells #[.pointer (some ⟨2, 144, none⟩), .pointer (some ⟨w.heap.size, 0, none⟩), .int .u64 150] 159)).alloc (.cells #[.pointer (some ⟨2, 144, none⟩), .pointer (some ⟨w.heap.size, 0, none⟩), .int .u64 150] 159)) (by rw [World.cell?_alloc_lt _ _ ⟨w.heap.size, 0, none⟩ (by simp; omega)]; simp)
  have st := Tryz.setE ⟨t, 0, none⟩ ⟨w.heap.size + 1 + 1 + 1, 0, none⟩ n old ((((w.alloc (.cells #[.pointer (some ⟨t, 0, none⟩)] 144)).alloc (.cells #[.pointer (some ⟨2, 144, none⟩), .pointer (some ⟨w.heap.size, 0, none⟩), .int .u64 150] 159)).alloc (.cells #[.pointer (some ⟨2, 144, none⟩), .pointer (some ⟨w.heap.size, 0, none⟩), .int .u64 150] 159)).alloc (.cells #[.int .i64 n] 35))
    (by rw [World.cell?_alloc_at _ _ _ _ (by simp)]; rfl)
    (by rw [World.cell?_alloc_lt _ _ ⟨t, 0, none⟩ (by simp; omega), World.cell?_alloc_lt _ _ ⟨t, 0, none⟩ (by simp; omega), World.cell?_alloc_lt _ _ ⟨t, 0, none⟩ (by simp; omega), World.cell?_alloc_lt _ _ ⟨t, 0, none⟩ htl]; exact ht0)
    (by rw [World.frozen?_alloc_old _ _ ⟨t, 0, none⟩ (by simp; omega), World.frozen?_alloc_old _ _ ⟨t, 0, none⟩ (by simp; omega), World.frozen?_alloc_old _ _ ⟨t, 0, none⟩ (by simp; omega), World.frozen?_alloc_old _ _ ⟨t, 0, none⟩ (Nat.ne_of_lt htl)]; exact hf0)
  have HT := Lib.hid ht
  have HB := Lib.hid hb
  clear ht hb
  go_enter Tryz.func118, Tryz.ntmps118
  go_wp2
  refine wp_loop_rounds 2 ?_
  rw [rounds_succ]
  go_wp2_with fail
  refine (Unwrap_any b at_ n _ (by rw [heap_alloc_lt (by simp; omega), heap_alloc_lt (by simp; omega), heap_alloc_lt hbl]; exact HB.out)).mono ?_
  rintro e w' ⟨rfl, rfl⟩
  go_wp2
  rw [rounds_succ]
  go_wp2
  go_ret
  refine ⟨rfl, ?_, ?_⟩
  · rw [heap_setCell (c := #[old]) (t := 35) (fz := (0, 0)) (by rw [heap_alloc_lt (by simp; omega), heap_alloc_lt (by simp; omega), heap_alloc_lt (by simp; omega), heap_alloc_lt htl]; exact HT.out)]
    rfl
  · exact (((((Chg.refl _ _).alloc _).alloc _).alloc _).alloc _).setCell _ _ (.inl (by simp))
end Go.Proofs.YtkomocgodljecaaGreatDoor
/- From a law's walk to its row and its card: what all laws of the seat share. After the guide's Derived/Test/ToyasProofs.lean and ToyasCard.lean. -/
namespace Go.Proofs.YtkomocgodljecaaGreatDoor
open Go.ChangeShapes Go.WideShapes Go.RowKit

theorem Tryz.own : ownKnob Tryz.prog.godebug = none := by kernel_rfl
theorem Tryz.laidOut : laidOutB Tryz.prog = true := by kernel_rfl
theorem Tryz.et : Tryz.prog.globalNamed "errors.errorType" = some 1 := by kernel_rfl
theorem Tryz.rt : (Tryz.prog.cutTypes.find? (·.1 == "internal/reflectlite.rtype")).map (·.2) = some 174 := by kernel_rfl
theorem Tryz.tsize : Tryz.prog.types.size = 214 := by kernel_rfl
theorem Tryz.oneRow : ((List.range 214).filter fun t => Tryz.prog.rowNamed t [101, 114, 114, 111, 114]) = [122] := by kernel_rfl
/-- What the row's condition on errors.errorType gives a walk: the variable's one cell. -/
theorem env_of_laid {W : World} (h : laidMetH Tryz.prog [("errors.errorType", Rows.laid_errors_errorType)] W) : Env W := by
  have h' : laidMet Tryz.prog [] W ∧ handlesMet Tryz.prog [("errors.errorType", Rows.laid_errors_errorType)] W := h
  obtain ⟨name, u, ty, e1, e2, e3, e4, e5⟩ := h'.2 _ (List.mem_singleton.2 rfl)
  have en : name = [101, 114, 114, 111, 114] := (Option.some.inj e1).symm
  subst en
  obtain rfl := Option.some.inj (Tryz.rt.symm.trans e2)
  have hm : ty ∈ (List.range 214).filter fun t => Tryz.prog.rowNamed t [101, 114, 114, 111, 114] := List.mem_filter.2 ⟨List.mem_range.2 (by rw [← Tryz.tsize]; exact e3), e4⟩
  rw [Tryz.oneRow] at hm
  obtain rfl := List.mem_singleton.1 hm
  have hh : typeHandle Tryz.prog 122 = .pointer (some ⟨2, 122, none⟩) := by kernel_rfl
  rw [hh] at e5
  show W.cell? _ = _
  simpa using World.var?_cell Tryz.et e5 0

/-- A world that meets the condition: the settled one, the variable's cell laid. -/
noncomputable def laidWorld (os : Os) : World :=
  let w0 := World.holding Tryz.prog os ⟨#[], #[], []⟩
  { w0 with heap := w0.heap.modify 1 fun
      | .cells _ t frozen => .cells #[.iface 174 (.agg #[.pointer (some ⟨2, 122, none⟩)])] t frozen
      | o => o }
theorem laidWorld_met (os : Os) (args : Array Value) : laidMetH Tryz.prog [("errors.errorType", Rows.laid_errors_errorType)] ((laidWorld os).forCall (fun _ _ => 0) ⟨#[], args, []⟩).memory :=
  laidMetH_of_parts (laidMet_nil _ _) (by kernel_rfl)

/-- All arguments read as they did. -/
theorem trodAll_below {H : Type} {enc : TypeId × Value → H} {W W' : World} : ∀ {ts : List TypeId} {vs : List Value} {ds : List (DataW H)} {ps : List MemPlace},
    DataW.TrodAll enc Tryz.prog W 0 (fun _ => true) true ts vs ds ps → (∀ t ∈ ts, Tryz.prog.readableRec t = true ∧ t < Tryz.prog.types.size) → Below W.heap.size W W' →
    DataW.TrodAll enc Tryz.prog W' 0 (fun b => decide (b < W.heap.size)) true ts vs ds ps
  | [], vs, ds, ps, h, _, _ => by
    obtain ⟨rfl, rfl, rfl⟩ := trodAll_nil h
    exact trodAll_mk0
  | t :: ts, vs, ds, ps, h, ht, hb => by
    obtain ⟨v0, vs0, d0, ds0, p0, q0, rfl, rfl, rfl, h0, r0⟩ := trodAll_cons h
    have k0 := h0
    have lt0 : ∀ x ∈ p0, x.block < W.heap.size := by obtain ⟨m, hm⟩ := k0; exact DataW.trod_lt m _ _ _ hm
    exact trodAll_cons_mk (Below.trod Tryz.laidOut (ht t (List.mem_cons_self ..)).1 (ht t (List.mem_cons_self ..)).2 h0 hb lt0) (trodAll_below r0 (fun t' h' => ht t' (List.mem_cons_of_mem _ h')) hb)

end Go.Proofs.YtkomocgodljecaaGreatDoor
