/- Lemmas, laid together: part 1 of 42. Conditions: none but each lemma's own. -/
import Derived.WalkKit
import Derived.Deep.QuietTactic
import Derived.BigQuiet
import Derived.WalkLawsBesides
import Derived.WalkSpells
import Derived.Lib.Hide
import Derived.Test.YtiljokmkiolpgaaGreatDoorProg
import Derived.LaidEql
import Derived.Stop.Asserts
import Derived.RowKitTokens
import Derived.Test.YtiljokmkiolpgaaGreatDoorRows
import Derived.Test.YtiljokmkiolpgaaGreatDoorCards
import Derived.Test.YtiljokmkiolpgaaGreatDoorTie
import Derived.ChangeSame
import Derived.ChangeVars
import Derived.JoinedOf
import Derived.RowKit
import Derived.LaidLaws
import Derived.LaidHandle
import Derived.Stop.Joined
import Derived.ProofKit
import Derived.OpenShut
import Derived.ShutString
import Derived.ChangeOld
import Derived.SevenTiedAt
namespace Go.Proofs.YtiljokmkiolpgaaGreatDoor
theorem hY {p : Prop} (h : p) : Go.RowKit.Hid p := h
theorem aS {α : Type} (l : List α) (i : Nat) (a : α) : l.toArray.setIfInBounds i a = (l.set i a).toArray := List.setIfInBounds_toArray ..
theorem aZ {α : Type} (b a : α) (l : List α) : (b :: l).set 0 a = a :: l := rfl
theorem aC {α : Type} (b a : α) (l : List α) (n : Nat) : (b :: l).set (n + 1) a = b :: l.set n a := rfl
theorem gA {α : Type} (l : List α) (i : Nat) : l.toArray[i]? = l[i]? := List.getElem?_toArray ..
theorem gC {α : Type} (a : α) (l : List α) (i : Nat) : (a :: l)[i + 1]? = l[i]? := rfl
theorem gZ {α : Type} (a : α) (l : List α) : (a :: l)[0]? = some a := rfl
end Go.Proofs.YtiljokmkiolpgaaGreatDoor
namespace Go.Proofs.YtiljokmkiolpgaaGreatDoor
open Go.RowKit
set_option maxRecDepth 100000
theorem cell_of_heap {w : World} {b : Nat} {c : Array Value} {t : TypeId} {fz : Nat × Nat} (h : w.heap[b]? = some (.cells c t fz)) (j : Nat) : w.cell? ⟨b, j, none⟩ = c[j]? := by
 simp [World.cell?, h]
theorem frozen_of_heap {w : World} {b : Nat} {c : Array Value} {t : TypeId} (h : w.heap[b]? = some (.cells c t (0, 0))) (j : Nat) : w.frozen? ⟨b, j, none⟩ = false := by
 simp [World.frozen?, h]
theorem lt_of_heap {w : World} {b : Nat} {o : Obj} (h : w.heap[b]? = some o) : b < w.heap.size := (Array.getElem?_eq_some_iff.1 h).1
theorem heap_setCell {w : World} {b : Nat} {c : Array Value} {t : TypeId} {fz : Nat × Nat} (h : w.heap[b]? = some (.cells c t fz)) (j : Nat) (v : Value) :
  (w.setCell ⟨b, j, none⟩ v).heap[b]? = some (.cells (c.setIfInBounds j v) t fz) := by
 simp [World.setCell, Array.getElem?_modify, h]
theorem heap_setCell_ne {w : World} {a : Addr} {k : Nat} (h : k ≠ a.block) (v : Value) : (w.setCell a v).heap[k]? = w.heap[k]? := Below.heap_setCell w a v k h
theorem heap_alloc_lt {w : World} {k : Nat} (h : k < w.heap.size) (o : Obj) : (w.alloc o).heap[k]? = w.heap[k]? := Below.heap_alloc w o k h
theorem heap_alloc_eq (w : World) (o : Obj) : (w.alloc o).heap[w.heap.size]? = some o := heap_alloc_new w o
structure Chg (S : List Nat) (w w' : World) : Prop where
 os : w'.os = w.os
 tape : w'.tape = w.tape
 output : w'.output = w.output
 size : w.heap.size ≤ w'.heap.size
 block : ∀ k, k < w.heap.size → k ∉ S → w'.heap[k]? = w.heap[k]?
theorem Chg.refl (S : List Nat) (w : World) : Chg S w w := ⟨rfl, rfl, rfl, Nat.le_refl _, fun _ _ _ => rfl⟩
theorem Chg.trans {S S' : List Nat} {a b c : World} (h : Chg S a b) (k : Chg S' b c) (hs : ∀ i ∈ S', i < a.heap.size → i ∈ S) : Chg S a c :=
 ⟨k.os.trans h.os, k.tape.trans h.tape, k.output.trans h.output, Nat.le_trans h.size k.size, fun i hi hn =>
  (k.block i (Nat.lt_of_lt_of_le hi h.size) (fun hm => hn (hs i hm hi))).trans (h.block i hi hn)⟩
theorem Chg.then {S : List Nat} {a b c : World} (h : Chg S a b) (k : Chg [] b c) : Chg S a c := h.trans k (fun _ hm => by cases hm)
theorem Chg.same {S : List Nat} {a b c : World} (h : Chg S a b) (k : Chg S b c) : Chg S a c := h.trans k (fun _ hm _ => hm)
theorem Chg.new {S : List Nat} {a b c : World} {p : Nat} (h : Chg S a b) (k : Chg [p] b c) (hp : a.heap.size ≤ p) : Chg S a c :=
 h.trans k (fun i hm hi => by rw [List.mem_singleton] at hm; omega)
theorem Chg.mono {S S' : List Nat} {a b : World} (h : Chg S a b) (hs : ∀ i ∈ S, i < a.heap.size → i ∈ S') : Chg S' a b :=
 ⟨h.os, h.tape, h.output, h.size, fun i hi hn => h.block i hi (fun hm => hn (hs i hm hi))⟩
theorem Chg.add {S : List Nat} {a b : World} (h : Chg [] a b) : Chg S a b := h.mono (fun _ hm => by cases hm)
theorem Chg.alloc {S : List Nat} {a b : World} (h : Chg S a b) (o : Obj) : Chg S a (b.alloc o) :=
 h.then ⟨rfl, rfl, rfl, by simp, fun k hk _ => heap_alloc_lt hk o⟩
theorem Chg.drewN {S : List Nat} {a b : World} (h : Chg S a b) (n : Nat) : Chg S a (b.drewN n) := ⟨h.os, h.tape, h.output, h.size, h.block⟩
theorem Chg.drew {S : List Nat} {a b : World} (h : Chg S a b) : Chg S a b.drew := ⟨h.os, h.tape, h.output, h.size, h.block⟩
theorem Chg.setCell {S : List Nat} {a b : World} (h : Chg S a b) (p : Addr) (v : Value) (hp : p.block ∈ S ∨ a.heap.size ≤ p.block) : Chg S a (b.setCell p v) :=
 h.trans (S' := [p.block]) ⟨rfl, rfl, rfl, by simp, fun k _ hn => heap_setCell_ne (by simpa using hn) v⟩ (fun i hm hi => by
  rw [List.mem_singleton] at hm; subst hm; rcases hp with hp | hp
  ·exact hp
  ·omega)
theorem Chg.grown {S : List Nat} {a b c : World} {row : Option Nat} (h : Chg S a b) (g : b.grownBy c row) (hr : ∀ k, row = some k → k ∈ S ∨ a.heap.size ≤ k) : Chg S a c :=
 ⟨g.os.trans h.os, g.tape.trans h.tape, g.output.trans h.output, Nat.le_trans h.size g.size, fun i hi hn =>
  (g.block i (Nat.lt_of_lt_of_le hi h.size) (fun e => by rcases hr i e.symm with hm | hm; exact hn hm; omega)).trans (h.block i hi hn)⟩
theorem Chg.below {a b : World} (h : Chg [] a b) : Below a.heap.size a b := ⟨h.os, h.tape, h.output, h.size, fun k hk => h.block k hk (by simp)⟩
theorem Chg.heap {S : List Nat} {a b : World} (h : Chg S a b) {k : Nat} {o : Obj} (hk : a.heap[k]? = some o) (hn : k ∉ S) : b.heap[k]? = some o :=
 (h.block k (lt_of_heap hk) hn).trans hk
theorem Chg.cell {S : List Nat} {a b : World} (h : Chg S a b) {k j : Nat} {v : Value} (hk : a.cell? ⟨k, j, none⟩ = some v) (hn : k ∉ S) : b.cell? ⟨k, j, none⟩ = some v := by
 have hl : k < a.heap.size := World.block_lt_of_cell? a _ hk
 exact (World.cell?_of_block (h.block k hl hn)).trans hk
def Dr (w w' : World) : Prop := w'.heap = w.heap ∧ w'.os = w.os ∧ w'.tape = w.tape ∧ w'.output = w.output ∧ w.drawn ≤ w'.drawn
theorem Dr.refl (w : World) : Dr w w := ⟨rfl, rfl, rfl, rfl, Nat.le_refl _⟩
theorem Dr.trans {a b c : World} (h : Dr a b) (k : Dr b c) : Dr a c :=
 ⟨k.1.trans h.1, k.2.1.trans h.2.1, k.2.2.1.trans h.2.2.1, k.2.2.2.1.trans h.2.2.2.1, Nat.le_trans h.2.2.2.2 k.2.2.2.2⟩
theorem Dr.drewN {a b : World} (h : Dr a b) (n : Nat) : Dr a (b.drewN n) := h.trans ⟨rfl, rfl, rfl, rfl, Nat.le_add_right _ _⟩
theorem Dr.drew {a b : World} (h : Dr a b) : Dr a b.drew := h.trans ⟨rfl, rfl, rfl, rfl, Nat.le_add_right _ _⟩
theorem Dr.set {a b : World} (h : Dr a b) (p : Addr) (v : Value) : Dr (a.setCell p v) (b.setCell p v) := by
 obtain ⟨h1, h2, h3, h4, h5⟩ := h
 refine ⟨?_, h2, h3, h4, h5⟩
 simp only [World.setCell, h1]
theorem Dr.alloc {a b : World} (h : Dr a b) (o : Obj) : Dr (a.alloc o) (b.alloc o) := by
 obtain ⟨h1, h2, h3, h4, h5⟩ := h
 refine ⟨?_, h2, h3, h4, h5⟩
 simp only [World.alloc, h1]
theorem Dr.ex {a b : World} (h : Dr a b) : ∃ n, b = a.drewN n := by
 obtain ⟨h1, h2, h3, h4, h5⟩ := h
 refine ⟨b.drawn - a.drawn, ?_⟩
 cases a; cases b
 simp only [World.drewN, World.mk.injEq] at *
 exact ⟨h1, h3, by omega, h2, h4⟩
theorem Dr.cell {a b : World} (h : Dr a b) (p : Addr) : b.cell? p = a.cell? p := by simp only [World.cell?, h.1]
theorem Dr.frozen {a b : World} (h : Dr a b) (p : Addr) : b.frozen? p = a.frozen? p := by simp only [World.frozen?, h.1]
theorem Dr.heap {a b : World} (h : Dr a b) : b.heap = a.heap := h.1
theorem Chg.dr {S : List Nat} {a b c : World} (h : Chg S a b) (k : Dr b c) : Chg S a c := by
 obtain ⟨n, rfl⟩ := k.ex
 exact h.drewN n
def Rd (w : World) (v : Value) (xs : List Value) : Prop :=
 ∃ a n cap, v = .slice a n cap ∧ n = xs.length ∧ n ≤ cap ∧ cap ≤ maxLen ∧
  (xs ≠ [] → ∃ b off, a = some ⟨b, off, none⟩ ∧ ∀ j, j < xs.length → w.cell? ⟨b, off + j, none⟩ = xs[j]?)
def Value.inBlock (v : Value) (b : Nat) : Prop := v.ownBlock = some b
theorem Rd.nil (w : World) : Rd w (.slice none 0 0) [] := ⟨none, 0, 0, rfl, rfl, Nat.le_refl _, Nat.zero_le _, fun h => absurd rfl h⟩
theorem Rd.frame {w w' : World} {v : Value} {xs : List Value} (h : Rd w v xs) {S : List Nat} (k : Chg S w w') (hn : ∀ b, v.ownBlock = some b → b ∉ S) : Rd w' v xs := by
 obtain ⟨a, n, cap, rfl, hl, hc, hc2, hx⟩ := h
 refine ⟨a, n, cap, rfl, hl, hc, hc2, fun hne => ?_⟩
 obtain ⟨b, off, rfl, hcell⟩ := hx hne
 refine ⟨b, off, rfl, fun j hj => ?_⟩
 obtain ⟨u, hu⟩ : ∃ u, xs[j]? = some u := ⟨_, List.getElem?_eq_getElem hj⟩
 rw [hu]
 exact k.cell ((hcell j hj).trans hu) (hn b rfl)
theorem Rd.drewN {w : World} {v : Value} {xs : List Value} (h : Rd w v xs) (n : Nat) : Rd (w.drewN n) v xs := h
theorem Rd.alloc {w : World} {v : Value} {xs : List Value} (h : Rd w v xs) (o : Obj) : Rd (w.alloc o) v xs := h.frame (S := []) ((Chg.refl [] w).alloc o) (fun _ _ hm => by cases hm)
theorem Rd.owned {w : World} {base : Nat} {e : TypeId} {v : Value} {n : Nat} {xs : List Value} (h : w.ownsRow base e 1 v n xs) : Rd w v xs := by
 obtain ⟨hl, hv⟩ := h
 rw [Nat.mul_one] at hl
 rcases hv with ⟨rfl, rfl⟩ | ⟨g, cap, cur, rfl, hb, hg, hnc, hcm, hcs, htake⟩
 ·have : xs = [] := List.eq_nil_of_length_eq_zero hl
  subst this; exact Rd.nil w
 ·refine ⟨_, _, _, rfl, hl.symm, hnc, hcm, fun _ => ⟨g, 0, rfl, fun j hj => ?_⟩⟩
  rw [Nat.zero_add, cell_of_heap hg, ← htake, List.getElem?_take, if_pos (by omega)]
  simp
def byteV (b : UInt8) : Value := .int .u8 b.toNat
def bytesV (l : List UInt8) : List Value := l.map byteV
theorem bytesV_length (l : List UInt8) : (bytesV l).length = l.length := by simp [bytesV]
theorem bytesV_get (l : List UInt8) (j : Nat) (h : j < l.length) : (bytesV l)[j]? = some (.int .u8 (l.getD j 0).toNat) := by simp [bytesV, byteV, h]
end Go.Proofs.YtiljokmkiolpgaaGreatDoor
namespace Go.Proofs.YtiljokmkiolpgaaGreatDoor
open Go.RowKit Go.Extern.Stop Go.Stop Go.Extern
theorem Tryz.valueOfP (t : Addr) (w : World) : (ReflectliteValue.unpack (.iface 112 (.pointer (some t)))).run Tryz.prog w
  = .ok (.agg #[.pointer (some ⟨2, 112, none⟩), .pointer (some ⟨w.heap.size, 0, none⟩), .int .u64 150]) (w.alloc (.cells #[.pointer (some t)] 112)) := by kernel_rfl
theorem Tryz.typeP (a : Addr) (w : World) : (ReflectliteValue.methodAny (ReflectliteValue.valueError "reflectlite.Value.Type" 0) (fun t _ _ _ => ReflectliteType.toType t) #[.agg #[.pointer (some ⟨2, 112, none⟩), .pointer (some a), .int .u64 150]]).run Tryz.prog w
  = .ok (.iface 206 (.agg #[.pointer (some ⟨2, 112, none⟩)])) w := by kernel_rfl
theorem Tryz.methodKind (h : Value) (w : World) : (Go.method 346 206 (.agg #[h]) "Kind").run Tryz.prog w = .ok (137, h) w := by kernel_rfl
theorem Tryz.kindP (w : World) : ((ReflectliteType.abiMethod fun t => (fun a : Nat => Value.int IntKind.u8 (a : Int)) <$> Rtype.kind t) #[.pointer (some ⟨2, 112, none⟩)]).run Tryz.prog w = .ok (.int .u8 22) w := by kernel_rfl
theorem Tryz.kindE (w : World) : ((ReflectliteType.abiMethod fun t => (fun a : Nat => Value.int IntKind.u8 (a : Int)) <$> Rtype.kind t) #[.pointer (some ⟨2, 36, none⟩)]).run Tryz.prog w = .ok (.int .u8 2) w := by kernel_rfl
theorem rlm (z : Sem Value) (f : TypeId → Addr → Nat → Nat → Sem Value) (v : Value) :
  ReflectliteValue.method z f #[v] = (do match ← ReflectliteValue.parts v with | none => z | some (t, a, fl) => f t a fl (fl % 32)) := rfl
theorem Tryz.partsP (a : Addr) (w : World) : (ReflectliteValue.parts (.agg #[.pointer (some ⟨2, 112, none⟩), .pointer (some a), .int .u64 150])).run Tryz.prog w = .ok (some (112, a, 150)) w := by kernel_rfl
theorem Tryz.isNilP (a p : Addr) (W : World) (ha : W.cell? a = some (.pointer (some p))) :
  (ReflectliteValue.method (ReflectliteValue.valueError "reflectlite.Value.IsNil" 0) ReflectliteValue.isNil #[.agg #[.pointer (some ⟨2, 112, none⟩), .pointer (some a), .int .u64 150]]).run Tryz.prog W = .ok (.bool false) W := by
 rw [rlm]
 simp only [Sem.run_bind, Tryz.partsP, Result.andThen]
 simp [ReflectliteValue.isNil, loadVar, isAgg, underlying, Tryz.underlying112, ha, Result.andThen]
theorem Tryz.methodElem (h : Value) (w : World) : (Go.method 346 206 (.agg #[h]) "Elem").run Tryz.prog w = .ok (150, .agg #[h]) w := by kernel_rfl
theorem Tryz.methodImplements (h : Value) (w : World) : (Go.method 346 206 (.agg #[h]) "Implements").run Tryz.prog w = .ok (151, .agg #[h]) w := by kernel_rfl
theorem Tryz.methodAssignableTo (h : Value) (w : World) : (Go.method 346 206 (.agg #[h]) "AssignableTo").run Tryz.prog w = .ok (148, .agg #[h]) w := by kernel_rfl
theorem Tryz.elemP (w : World) : (ReflectliteType.method ReflectliteType.elem #[.agg #[.pointer (some ⟨2, 112, none⟩)]]).run Tryz.prog w = .ok (.iface 206 (.agg #[.pointer (some ⟨2, 36, none⟩)])) w := by kernel_rfl
theorem Tryz.implementsE (w : World) : (ReflectliteType.relation "Implements" ReflectliteType.implements_ #[.agg #[.pointer (some ⟨2, 36, none⟩)], .iface 206 (.agg #[.pointer (some ⟨2, 169, none⟩)])]).run Tryz.prog w = .ok (.bool true) w := by kernel_rfl
theorem Tryz.typeOfE (v : Value) (w : World) : (ReflectliteType.typeOf #[.iface 36 v]).run Tryz.prog w = .ok (.iface 206 (.agg #[.pointer (some ⟨2, 36, none⟩)])) w := by kernel_rfl
theorem Tryz.typeOfW (v : Value) (w : World) : (ReflectliteType.typeOf #[.iface 187 v]).run Tryz.prog w = .ok (.iface 206 (.agg #[.pointer (some ⟨2, 187, none⟩)])) w := by kernel_rfl
theorem Tryz.assignableE (w : World) : (ReflectliteType.relation "AssignableTo" ReflectliteType.assignableTo #[.agg #[.pointer (some ⟨2, 36, none⟩)], .iface 206 (.agg #[.pointer (some ⟨2, 36, none⟩)])]).run Tryz.prog w = .ok (.bool true) w := by kernel_rfl
theorem Tryz.assignableW (w : World) : (ReflectliteType.relation "AssignableTo" ReflectliteType.assignableTo #[.agg #[.pointer (some ⟨2, 187, none⟩)], .iface 206 (.agg #[.pointer (some ⟨2, 36, none⟩)])]).run Tryz.prog w = .ok (.bool false) w := by kernel_rfl
theorem Tryz.valueOfE (n : Int) (w : World) : (ReflectliteValue.unpack (.iface 36 (.int .i64 n))).run Tryz.prog w
  = .ok (.agg #[.pointer (some ⟨2, 36, none⟩), .pointer (some ⟨w.heap.size, 0, none⟩), .int .u64 130]) (w.alloc (.cells #[.int .i64 n] 36)) := by kernel_rfl
theorem Tryz.elemOfP (w : World) : (Rtype.elem? 112).run Tryz.prog w = .ok (some 36) w := by kernel_rfl
theorem Tryz.mkE (p : Addr) (w : World) : (ReflectliteValue.mk 36 p ReflectliteValue.flagAddr).run Tryz.prog w = .ok (.agg #[.pointer (some ⟨2, 36, none⟩), .pointer (some p), .int .u64 386]) w := by kernel_rfl
theorem Tryz.elemVP (a p : Addr) (W : World) (ha : W.cell? a = some (.pointer (some p))) :
  (ReflectliteValue.method (ReflectliteValue.valueError "reflectlite.Value.Elem" 0) ReflectliteValue.elem #[.agg #[.pointer (some ⟨2, 112, none⟩), .pointer (some a), .int .u64 150]]).run Tryz.prog W
   = .ok (.agg #[.pointer (some ⟨2, 36, none⟩), .pointer (some p), .int .u64 386]) W := by
 rw [rlm]
 simp only [Sem.run_bind, Tryz.partsP, Result.andThen]
 simp [ReflectliteValue.elem, loadVar, isAgg, underlying, Tryz.underlying112, ha, Result.andThen, Tryz.elemOfP, Tryz.mkE]
theorem rls (v x : Value) : ReflectliteValue.set #[v, x] = (do
  let (some (dst, a, fl), some (src, b, _)) := (← ReflectliteValue.parts v, ← ReflectliteValue.parts x)
   | unsupported (.noEntry "extern/(internal/reflectlite.Value).Set.zeroValue")
  if fl / ReflectliteValue.flagAddr % 2 == 0 then unsupported (.noEntry "extern/(internal/reflectlite.Value).Set.unaddressable")
  let val ← loadVar src b
  if ← Rtype.directlyAssignable dst src then storeVar dst a val
  else if ← Rtype.implements dst src then
   if (← Rtype.kind src) == 20 then
    match val with
    | .nilIface => unsupported (.noEntry "extern/reflectlite: a nil value of one interface type handed on as a value of another")
    | _ => storeVar dst a val
   else storeVar dst a (.iface src val)
  else panicString ("reflectlite.Set: value of type " ++ (← Rtype.spelt src) ++ " is not assignable to type " ++ (← Rtype.spelt dst))
  pure (.tuple #[])) := rfl
theorem Tryz.partsEa (a : Addr) (w : World) : (ReflectliteValue.parts (.agg #[.pointer (some ⟨2, 36, none⟩), .pointer (some a), .int .u64 386])).run Tryz.prog w = .ok (some (36, a, 386)) w := by kernel_rfl
theorem Tryz.partsE (a : Addr) (w : World) : (ReflectliteValue.parts (.agg #[.pointer (some ⟨2, 36, none⟩), .pointer (some a), .int .u64 130])).run Tryz.prog w = .ok (some (36, a, 130)) w := by kernel_rfl
theorem Tryz.directE (w : World) : (Rtype.directlyAssignable 36 36).run Tryz.prog w = .ok true w := by kernel_rfl
theorem Tryz.setE (ta b : Addr) (n : Int) (old : Value) (W : World) (hb : W.cell? b = some (.int .i64 n)) (ht : W.cell? ta = some old) (hf : W.frozen? ta = false) :
  (ReflectliteValue.set #[.agg #[.pointer (some ⟨2, 36, none⟩), .pointer (some ta), .int .u64 386], .agg #[.pointer (some ⟨2, 36, none⟩), .pointer (some b), .int .u64 130]]).run Tryz.prog W
   = .ok (.tuple #[]) (W.setCell ta (.int .i64 n)) := by
 rw [rls]
 simp only [Sem.run_bind, Tryz.partsEa, Tryz.partsE, Result.andThen]
 simp [ReflectliteValue.flagAddr, loadVar, isAgg, underlying, Tryz.underlying36, hb, Result.andThen, Tryz.directE, storeVar, Value.cells, storeCells, Addr.add]
 rw [run_store Tryz.prog W ta _ _ (by rfl)]
 simp [ht, hf]
end Go.Proofs.YtiljokmkiolpgaaGreatDoor
namespace Go.Proofs.YtiljokmkiolpgaaGreatDoor
open Go.RowKit Go.Extern.Stop Go.Stop Go.Extern
def Env (w : World) : Prop := w.cell? ⟨1, 0, none⟩ = some (.iface 206 (.agg #[.pointer (some ⟨2, 169, none⟩)]))
theorem Env.pos {w : World} (h : Env w) : 1 < w.heap.size := World.block_lt_of_cell? w _ h
theorem Env.frame {w w' : World} (h : Env w) {S : List Nat} (k : Chg S w w') (hn : 1 ∉ S) : Env w' := k.cell h hn
theorem Tryz.noAs (v : Value) (xT : TypeId) (w : World) : (Instr.typeAssert (.iface 187 v) xT 211 true).run Tryz.prog w = .ok (.tuple #[.nilIface, .bool false]) w :=
 run_typeAssert_lacksB Tryz.underlying211 (by kernel_rfl) (by kernel_rfl) v xT w
theorem Tryz.hasUnwrap (v : Value) (xT : TypeId) (w : World) : (Instr.typeAssert (.iface 187 v) xT 214 true).run Tryz.prog w = .ok (.tuple #[.iface 187 v, .bool true]) w :=
 run_typeAssert_hasB Tryz.underlying214 (by kernel_rfl) v xT w
theorem Tryz.methodUnwrap (a : Addr) (w : World) : (Go.method 346 187 (.pointer (some a)) "Unwrap").run Tryz.prog w = .ok (143, .pointer (some a)) w := by kernel_rfl
theorem Unwrap_any (b : Nat) (at_ : Value) (n : Int) (w : World) (h : w.heap[b]? = some (.cells #[at_, .int .i64 n] 189 (0, 0))) :
  Calls Tryz.prog 143 #[.pointer (some ⟨b, 0, none⟩)] w fun e w' => e = .returned (.iface 36 (.int .i64 n)) ∧ w = w' := by
 have h1 := cell_of_heap h 1
 clear h
 simp at h1
 go_enter Tryz.func143, Tryz.ntmps143
 go_wp2
 go_ret
 exact ⟨rfl, rfl⟩
set_option maxRecDepth 100000 in
set_option maxHeartbeats 4000000 in
theorem as_wrong (b : Nat) (t : Nat) (at_ : Value) (n : Int) (old : Value) (w : World) (hg : Env w) (ht : w.heap[t]? = some (.cells #[old] 36 (0, 0))) (hb : w.heap[b]? = some (.cells #[at_, .int .i64 n] 189 (0, 0))) :
  Calls Tryz.prog 109 #[.iface 187 (.pointer (some ⟨b, 0, none⟩)), .iface 112 (.pointer (some ⟨t, 0, none⟩))] w fun ev w' => ev = .returned (.bool true) ∧ w'.heap[t]? = some (.cells #[.int .i64 n] 36 (0, 0)) ∧ Chg [t] w w' := by
 have hVO := @run_callFunc_extern Tryz.prog 116 _ (fun args => ReflectliteValue.unpack (args.getD 0 (.tuple #[]))) Tryz.func116 (by kernel_rfl) (by kernel_rfl) (by kernel_rfl) (by kernel_rfl)
 have hVT := @run_callFunc_extern Tryz.prog 117 _ (ReflectliteValue.methodAny (ReflectliteValue.valueError "reflectlite.Value.Type" 0) (fun t _ _ _ => ReflectliteType.toType t)) Tryz.func117 (by kernel_rfl) (by kernel_rfl) (by kernel_rfl) (by kernel_rfl)
 have hVN := @run_callFunc_extern Tryz.prog 118 _ (ReflectliteValue.method (ReflectliteValue.valueError "reflectlite.Value.IsNil" 0) ReflectliteValue.isNil) Tryz.func118 (by kernel_rfl) (by kernel_rfl) (by kernel_rfl) (by kernel_rfl)
 have hTK := @run_callFunc_extern Tryz.prog 137 _ (ReflectliteType.abiMethod fun t => do pure (.int .u8 (← Rtype.kind t))) Tryz.func137 (by kernel_rfl) (by kernel_rfl) (by kernel_rfl) (by kernel_rfl)
 have hTE := @run_callFunc_extern Tryz.prog 150 _ (ReflectliteType.method ReflectliteType.elem) Tryz.func150 (by kernel_rfl) (by kernel_rfl) (by kernel_rfl) (by kernel_rfl)
 have hTI := @run_callFunc_extern Tryz.prog 151 _ (ReflectliteType.relation "Implements" ReflectliteType.implements_) Tryz.func151 (by kernel_rfl) (by kernel_rfl) (by kernel_rfl) (by kernel_rfl)
 have hTO := @run_callFunc_extern Tryz.prog 120 _ ReflectliteType.typeOf Tryz.func120 (by kernel_rfl) (by kernel_rfl) (by kernel_rfl) (by kernel_rfl)
 have hTA := @run_callFunc_extern Tryz.prog 148 _ (ReflectliteType.relation "AssignableTo" ReflectliteType.assignableTo) Tryz.func148 (by kernel_rfl) (by kernel_rfl) (by kernel_rfl) (by kernel_rfl)
 have hVE := @run_callFunc_extern Tryz.prog 121 _ (ReflectliteValue.method (ReflectliteValue.valueError "reflectlite.Value.Elem" 0) ReflectliteValue.elem) Tryz.func121 (by kernel_rfl) (by kernel_rfl) (by kernel_rfl) (by kernel_rfl)
 have hVS := @run_callFunc_extern Tryz.prog 122 _ ReflectliteValue.set Tryz.func122 (by kernel_rfl) (by kernel_rfl) (by kernel_rfl) (by kernel_rfl)
 have c1 := Tryz.typeOfE
 have c2 := Tryz.typeOfW
 have c3 := Tryz.methodAssignableTo
 have c4 := Tryz.assignableE
 have c5 := Tryz.assignableW
 have c6 := Tryz.valueOfE
 have c7 := Tryz.valueOfP
 have c8 := Tryz.typeP
 have c9 := Tryz.methodKind
 have c10 := Tryz.methodElem
 have c11 := Tryz.methodImplements
 have c12 := Tryz.kindP
 have c13 := Tryz.kindE
 have c14 := Tryz.elemP
 have c15 := Tryz.implementsE
 have c16 := Tryz.noAs
 have c17 := Tryz.hasUnwrap
 have c18 := Tryz.methodUnwrap
 have hlt : 1 < w.heap.size := hg.pos
 have htl : t < w.heap.size := lt_of_heap ht
 have hbl : b < w.heap.size := lt_of_heap hb
 have ht0 := cell_of_heap ht 0
 have hf0 := frozen_of_heap ht 0
 have hb1 := cell_of_heap hb 1
 simp only [gA, gZ, List.getElem?_cons_succ] at ht0 hb1
 have n8 := Tryz.isNilP ⟨w.heap.size, 0, none⟩ ⟨t, 0, none⟩ ((w.alloc (.cells #[.pointer (some ⟨t, 0, none⟩)] 112)).alloc (.cells #[.pointer (some ⟨2, 112, none⟩), .pointer (some ⟨w.heap.size, 0, none⟩), .int .u64 150] 196)) (by simp)
 have hg2 : ((w.alloc (.cells #[.pointer (some ⟨t, 0, none⟩)] 112)).alloc (.cells #[.pointer (some ⟨2, 112, none⟩), .pointer (some ⟨w.heap.size, 0, none⟩), .int .u64 150] 196)).cell? ⟨1, 0, none⟩ = some (.iface 206 (.agg #[.pointer (some ⟨2, 169, none⟩)])) := by
  rw [World.cell?_alloc_lt _ _ ⟨1, 0, none⟩ (by simp <;> omega), World.cell?_alloc_lt _ _ ⟨1, 0, none⟩ hlt]; exact hg
 have el := Tryz.elemVP ⟨w.heap.size, 0, none⟩ ⟨t, 0, none⟩ (((w.alloc (.cells #[.pointer (some ⟨t, 0, none⟩)] 112)).alloc (.cells #[.pointer (some ⟨2, 112, none⟩), .pointer (some ⟨w.heap.size, 0, none⟩), .int .u64 150] 196)).alloc (.cells #[.pointer (some ⟨2, 112, none⟩), .pointer (some ⟨w.heap.size, 0, none⟩), .int .u64 150] 196)) (by rw [World.cell?_alloc_lt _ _ ⟨w.heap.size, 0, none⟩ (by simp; omega)]; simp)
 have st := Tryz.setE ⟨t, 0, none⟩ ⟨w.heap.size + 1 + 1 + 1, 0, none⟩ n old ((((w.alloc (.cells #[.pointer (some ⟨t, 0, none⟩)] 112)).alloc (.cells #[.pointer (some ⟨2, 112, none⟩), .pointer (some ⟨w.heap.size, 0, none⟩), .int .u64 150] 196)).alloc (.cells #[.pointer (some ⟨2, 112, none⟩), .pointer (some ⟨w.heap.size, 0, none⟩), .int .u64 150] 196)).alloc (.cells #[.int .i64 n] 36))
  (by rw [World.cell?_alloc_at _ _ _ _ (by simp)]; rfl)
  (by rw [World.cell?_alloc_lt _ _ ⟨t, 0, none⟩ (by simp; omega), World.cell?_alloc_lt _ _ ⟨t, 0, none⟩ (by simp; omega), World.cell?_alloc_lt _ _ ⟨t, 0, none⟩ (by simp; omega), World.cell?_alloc_lt _ _ ⟨t, 0, none⟩ htl]; exact ht0)
  (by rw [World.frozen?_alloc_old _ _ ⟨t, 0, none⟩ (by simp; omega), World.frozen?_alloc_old _ _ ⟨t, 0, none⟩ (by simp; omega), World.frozen?_alloc_old _ _ ⟨t, 0, none⟩ (by simp; omega), World.frozen?_alloc_old _ _ ⟨t, 0, none⟩ (Nat.ne_of_lt htl)]; exact hf0)
 have HT := hY ht
 have HB := hY hb
 clear ht hb
 go_enter Tryz.func109, Tryz.ntmps109
 go_wp2
 refine wp_loop_rounds 2 ?_
 rw [rounds_succ]
 go_wp2_with fail
 refine (Unwrap_any b at_ n _ (by rw [heap_alloc_lt (by simp; omega), heap_alloc_lt (by simp; omega), heap_alloc_lt hbl]; exact HB.out)).mono ?_
 rintro e w' ⟨rfl, rfl⟩
 go_wp2
 rw [rounds_succ]
 go_wp2
 go_ret
 refine ⟨rfl, ?_, ?_⟩
 ·rw [heap_setCell (c := #[old]) (t := 36) (fz := (0, 0)) (by rw [heap_alloc_lt (by simp; omega), heap_alloc_lt (by simp; omega), heap_alloc_lt (by simp; omega), heap_alloc_lt htl]; exact HT.out)]
  rfl
 ·exact (((((Chg.refl _ _).alloc _).alloc _).alloc _).alloc _).setCell _ _ (.inl (by simp))
end Go.Proofs.YtiljokmkiolpgaaGreatDoor
namespace Go.Proofs.YtiljokmkiolpgaaGreatDoor
open Go.ChangeShapes Go.WideShapes Go.RowKit
theorem Tryz.own : ownKnob Tryz.prog.godebug = none := by kernel_rfl
theorem Tryz.laidOut : laidOutB Tryz.prog = true := by kernel_rfl
theorem Tryz.et : Tryz.prog.globalNamed "errors.errorType" = some 1 := by kernel_rfl
theorem Tryz.rt : (Tryz.prog.cutTypes.find? (·.1 == "internal/reflectlite.rtype")).map (·.2) = some 206 := by kernel_rfl
theorem Tryz.tsize : Tryz.prog.types.size = 246 := by kernel_rfl
theorem Tryz.oneRow : ((List.range 246).filter fun t => Tryz.prog.rowNamed t [101, 114, 114, 111, 114]) = [169] := by kernel_rfl
theorem env_of_laid {W : World} (h : laidMetH Tryz.prog [("errors.errorType", Rows.laid_errors_errorType)] W) : Env W := by
 have h' : laidMet Tryz.prog [] W ∧ handlesMet Tryz.prog [("errors.errorType", Rows.laid_errors_errorType)] W := h
 obtain ⟨name, u, ty, e1, e2, e3, e4, e5⟩ := h'.2 _ (List.mem_singleton.2 rfl)
 have en : name = [101, 114, 114, 111, 114] := (Option.some.inj e1).symm
 subst en
 obtain rfl := Option.some.inj (Tryz.rt.symm.trans e2)
 have hm : ty ∈ (List.range 246).filter fun t => Tryz.prog.rowNamed t [101, 114, 114, 111, 114] := List.mem_filter.2 ⟨List.mem_range.2 (by rw [← Tryz.tsize]; exact e3), e4⟩
 rw [Tryz.oneRow] at hm
 obtain rfl := List.mem_singleton.1 hm
 have hh : typeHandle Tryz.prog 169 = .pointer (some ⟨2, 169, none⟩) := by kernel_rfl
 rw [hh] at e5
 show W.cell? _ = _
 simpa using World.var?_cell Tryz.et e5 0
noncomputable def laidWorld (os : Os) : World :=
 let w0 := World.holding Tryz.prog os ⟨#[], #[], []⟩
 { w0 with heap := w0.heap.modify 1 fun
   | .cells _ t frozen => .cells #[.iface 206 (.agg #[.pointer (some ⟨2, 169, none⟩)])] t frozen
   | o => o }
theorem laidWorld_met (os : Os) (args : Array Value) : laidMetH Tryz.prog [("errors.errorType", Rows.laid_errors_errorType)] ((laidWorld os).forCall (fun _ _ => 0) ⟨#[], args, []⟩).memory :=
 laidMetH_of_parts (laidMet_nil _ _) (by kernel_rfl)
theorem trodAll_below {H : Type} {enc : TypeId × Value → H} {W W' : World} : ∀ {ts : List TypeId} {vs : List Value} {ds : List (DataW H)} {ps : List MemPlace},
  DataW.TrodAll enc Tryz.prog W 0 (fun _ => true) true ts vs ds ps → (∀ t ∈ ts, Tryz.prog.readableRec t = true ∧ t < Tryz.prog.types.size) → Below W.heap.size W W' →
  DataW.TrodAll enc Tryz.prog W' 0 (fun b => decide (b < W.heap.size)) true ts vs ds ps
 | [], vs, ds, ps, h, _, _ => by
  obtain ⟨rfl, rfl, rfl⟩ := trodAll_nil h
  exact trodAll_mk0
 | t :: ts, vs, ds, ps, h, ht, hb => by
  obtain ⟨v0, vs0, d0, ds0, p0, q0, rfl, rfl, rfl, h0, r0⟩ := trodAll_cons h
  have k0 := h0
  have lt0 : ∀ x ∈ p0, x.block < W.heap.size := by obtain ⟨m, hm⟩ := k0; exact DataW.trod_lt m _ _ _ hm
  exact trodAll_cons_mk (Below.trod Tryz.laidOut (ht t (List.mem_cons_self ..)).1 (ht t (List.mem_cons_self ..)).2 h0 hb lt0) (trodAll_below r0 (fun t' h' => ht t' (List.mem_cons_of_mem _ h')) hb)
theorem open_row {H : Type} {enc : TypeId × Value → H} {K : IntKind} {T E : TypeId} {W : World} {a : Option Addr} {len cap : Nat} {d : DataW H} {ps : List MemPlace} (hu : Tryz.prog.underlying T = some (.slice E)) (he : Tryz.prog.underlying E = some (.int K)) (hc : Tryz.prog.cellsOf E = 1)
  (h : DataW.Trod enc Tryz.prog W 0 (fun _ => true) true T (.slice a len cap) d ps) :
  ∃ zs : List Int, zs.length = len ∧ Rd W (.slice a len cap) (zs.map (Value.int K)) ∧ ∀ n ∈ zs, (Lit.int K n).wf = true := by
 obtain ⟨fuel, hf⟩ := h
 rcases open_ints hu he hc hf with ⟨hcs, _⟩ | ⟨x, l, c, zs, hcs, _, hl, hm, hz, _, hcell, hwz⟩
 ·simp [Value.cells] at hcs
  obtain ⟨rfl, rfl, rfl⟩ := hcs
  exact ⟨[], rfl, Rd.nil W, fun _ hm => by cases hm⟩
 ·simp [Value.cells] at hcs
  obtain ⟨rfl, rfl, rfl⟩ := hcs
  have hz' : zs.length = cap := by simpa using hz
  refine ⟨zs.take len, by simp; omega, ?_, fun n hn => hwz n (List.mem_of_mem_take hn)⟩
  refine ⟨_, _, _, rfl, by simp; omega, hl, hm, fun hne => ?_⟩
  have hpos : 0 < len := by
   rcases Nat.eq_zero_or_pos len with h0 | h0
   ·subst h0; simp at hne
   ·exact h0
  obtain ⟨b, off, rfl, hc'⟩ := ints_at hcell (by omega)
  refine ⟨b, off, rfl, fun j hj => ?_⟩
  simp only [List.length_map, List.length_take] at hj
  rw [hc' j (by omega)]
  simp [show j < len by omega, show j < zs.length by omega]
theorem open_bytes {H : Type} {enc : TypeId × Value → H} {T E : TypeId} {W : World} {a : Option Addr} {len cap : Nat} {d : DataW H} {ps : List MemPlace} (hu : Tryz.prog.underlying T = some (.slice E)) (he : Tryz.prog.underlying E = some (.int .u8)) (hc : Tryz.prog.cellsOf E = 1)
  (h : DataW.Trod enc Tryz.prog W 0 (fun _ => true) true T (.slice a len cap) d ps) :
  ∃ l : List UInt8, l.length = len ∧ Rd W (.slice a len cap) (bytesV l) := by
 obtain ⟨zs, hl, hr, hw⟩ := open_row hu he hc h
 refine ⟨zs.map fun n => UInt8.ofNat n.toNat, by simpa using hl, ?_⟩
 have e : bytesV (zs.map fun n => UInt8.ofNat n.toNat) = zs.map (Value.int .u8) := by
  unfold bytesV
  rw [List.map_map]
  refine List.map_congr_left fun n hn => ?_
  have hb := bounds_u8 (hw n hn)
  have : (UInt8.ofNat n.toNat).toNat = n.toNat := by simp; omega
  simp only [Function.comp, byteV, this, Int.toNat_of_nonneg hb.1]
 rw [e]
 exact hr
end Go.Proofs.YtiljokmkiolpgaaGreatDoor
namespace Go.Proofs.YtiljokmkiolpgaaGreatDoor
open Go.RowKit
set_option maxRecDepth 100000
theorem Fail_any (b : Nat) (al at_ bg fl : Value) (w : World) (h : w.heap[b]? = some (.cells #[al, at_, bg, fl] 159 (0, 0))) :
  Calls Tryz.prog 89 #[.pointer (some ⟨b, 0, none⟩)] w fun e w' => e = .returned (.tuple #[]) ∧ w.setCell ⟨b, 3, none⟩ (.bool true) = w' := by
 have h3 := cell_of_heap h 3
 have f3 := frozen_of_heap h 3
 clear h
 simp at h3
 go_enter Tryz.func89, Tryz.ntmps89
 go_wp2
 go_end0
 exact ⟨rfl, rfl⟩
theorem Left_any (b : Nat) (a : Option Addr) (n cap : Nat) (at_ : Int) (bg fl : Value) (w : World) (h : w.heap[b]? = some (.cells #[.slice a n cap, .int .i64 at_, bg, fl] 159 (0, 0)))
   (h0 : 0 ≤ at_) (hn : n ≤ 140737488355328) (h2 : at_ ≤ n) :
    Calls Tryz.prog 104 #[.pointer (some ⟨b, 0, none⟩)] w fun e w' => e = .returned (.int .i64 (n - at_)) ∧ Dr w w' := by
  have hc0 := cell_of_heap h 0
  have hc1 := cell_of_heap h 1
  clear h
  simp at hc0 hc1
  go_enter Tryz.func104, Tryz.ntmps104
  go_wp2
  go_quiet (fail)
  go_wp2
  go_ret
  exact ⟨rfl, (Dr.refl _).drewN _⟩
theorem well_any (b : Nat) (al at_ bg : Value) (fl is : Bool) (w : World) (h : w.heap[b]? = some (.cells #[al, at_, bg, .bool fl] 159 (0, 0))) :
  Calls Tryz.prog 83 #[.pointer (some ⟨b, 0, none⟩), .bool is] w fun e w' => e = .returned (.bool (is && !fl)) ∧ (if is then w else w.setCell ⟨b, 3, none⟩ (.bool true)) = w' := by
 have h3 := cell_of_heap h 3
 simp at h3
 go_enter Tryz.func83, Tryz.ntmps83
 cases is
 ·go_wp2_with fail
  refine (Fail_any b al at_ bg (.bool fl) w h).mono ?_
  rintro e w' ⟨rfl, rfl⟩
  have h3' : (w.setCell ⟨b, 3, none⟩ (.bool true)).cell? ⟨b, 3, none⟩ = some (.bool true) := World.cell?_setCell_same _ _ _ h3
  clear h
  go_wp2
  go_ret
  exact ⟨rfl, rfl⟩
 ·clear h
  go_wp2
  go_ret
  exact ⟨by simp, rfl⟩
theorem take_some (b : Nat) (a : Option Addr) (n cap : Nat) (at_ m : Int) (bg : Value) (w : World) (h : w.heap[b]? = some (.cells #[.slice a n cap, .int .i64 at_, bg, .bool false] 159 (0, 0)))
   (h0 : 0 ≤ at_) (hn : n ≤ 140737488355328) (h2 : at_ ≤ n) (hm : 0 ≤ m) (hm2 : m ≤ n - at_) (hc : n ≤ cap) (hc2 : cap ≤ 9223372036854775807) (ha : 0 < m → ∃ d off, a = some ⟨d, off, none⟩) :
    Calls Tryz.prog 84 #[.pointer (some ⟨b, 0, none⟩), .int .i64 m] w fun e w' =>
      e = .returned (.slice (if m = 0 then a else a.map fun x => ⟨x.block, x.off + at_.toNat, none⟩) m.toNat m.toNat) ∧ Dr (w.setCell ⟨b, 1, none⟩ (.int .i64 (at_ + m))) w' := by
  have hc0 := cell_of_heap h 0
  have hc1 := cell_of_heap h 1
  have f1 := frozen_of_heap h 1
  simp at hc0 hc1
  by_cases hm0 : m = 0
  · subst hm0
    go_enter Tryz.func84, Tryz.ntmps84
    go_wp2_with fail
    refine (Left_any b a n cap at_ bg _ w h h0 hn h2).mono ?_
    rintro e w' ⟨rfl, hd⟩; obtain ⟨q, rfl⟩ := hd.ex; clear hd
    go_wp2_with fail
    refine (well_any b _ (.int .i64 at_) bg false true (w.drewN q) h).mono ?_
    rintro e w' ⟨rfl, rfl⟩
    cases a with
    | none =>
      go_wp2
      go_quiet (fail)
      go_wp2
      go_ret
      exact ⟨rfl, (((Dr.refl _).drewN _).set _ _).drewN _⟩
    | some a =>
      go_wp2
      go_quiet (fail)
      go_wp2
      go_ret
      exact ⟨rfl, (((Dr.refl _).drewN _).set _ _).drewN _⟩
  · obtain ⟨d, off, rfl⟩ := ha (by omega)
    have hne : ¬ (at_ + m).toNat = at_.toNat := by omega
    go_enter Tryz.func84, Tryz.ntmps84
    go_wp2_with fail
    refine (Left_any b (some ⟨d, off, none⟩) n cap at_ bg _ w h h0 hn h2).mono ?_
    rintro e w' ⟨rfl, hd⟩; obtain ⟨q, rfl⟩ := hd.ex; clear hd
    go_wp2_with fail
    refine (well_any b _ (.int .i64 at_) bg false true (w.drewN q) h).mono ?_
    rintro e w' ⟨rfl, rfl⟩
    go_wp2
    go_quiet (fail)
    go_wp2
    go_ret
    have e1 : (at_ + m).toNat - at_.toNat = m.toNat := by omega
    exact ⟨by simp [e1], (((Dr.refl _).drewN _).set _ _).drewN _⟩
def leNum : List UInt8 → Nat
 | [] => 0
 | x :: r => x.toNat + 256 * leNum r
def beNum (l : List UInt8) : Nat := l.foldl (fun n x => n * 256 + x.toNat) 0
theorem leNum_snoc (l : List UInt8) (x : UInt8) : leNum (l ++ [x]) = leNum l + x.toNat * 256 ^ l.length := by
 induction l with
 | nil => simp [leNum]
 | cons y r ih => simp only [List.cons_append, leNum, ih, List.length_cons, Nat.pow_succ, Nat.mul_add]; rw [Nat.add_assoc, ← Nat.mul_assoc, ← Nat.mul_assoc, Nat.mul_comm 256 x.toNat, Nat.mul_assoc x.toNat, Nat.mul_comm 256 (256 ^ r.length)]; simp [Nat.mul_assoc]
theorem leNum_lt (l : List UInt8) : leNum l < 256 ^ l.length := by
 induction l with
 | nil => simp [leNum]
 | cons y r ih => have := y.toNat_lt; simp only [leNum, List.length_cons, Nat.pow_succ]; omega
theorem beNum_snoc (l : List UInt8) (x : UInt8) : beNum (l ++ [x]) = beNum l * 256 + x.toNat := by simp [beNum]
theorem beNum_lt (l : List UInt8) : beNum l < 256 ^ l.length := by
 have h : ∀ (n : Nat) (m : List UInt8), m.length = n → beNum m < 256 ^ n := by
  intro n
  induction n with
  | zero => intro m hm; rw [List.length_eq_zero_iff.1 hm]; simp [beNum]
  | succ n ih =>
   intro m hm
   obtain ⟨r, x, rfl⟩ : ∃ r x, m = r ++ [x] := ⟨m.dropLast, m.getLast (by intro e; subst e; simp at hm), (List.dropLast_concat_getLast _).symm⟩
   have := ih r (by simpa using hm)
   have := x.toNat_lt
   rw [beNum_snoc, Nat.pow_succ]; omega
 exact h _ l rfl
theorem leNum_reverse (l : List UInt8) : leNum l.reverse = beNum l := by
 have h : ∀ (n : Nat) (m : List UInt8), m.length = n → leNum m.reverse = beNum m := by
  intro n
  induction n with
  | zero => intro m hm; rw [List.length_eq_zero_iff.1 hm]; simp [beNum, leNum]
  | succ n ih =>
   intro m hm
   obtain ⟨r, x, rfl⟩ : ∃ r x, m = r ++ [x] := ⟨m.dropLast, m.getLast (by intro e; subst e; simp at hm), (List.dropLast_concat_getLast _).symm⟩
   have := ih r (by simpa using hm)
   rw [beNum_snoc, List.reverse_append]; simp only [List.reverse_cons, List.reverse_nil, List.nil_append, List.cons_append, leNum, this]; omega
 exact h _ l rfl
def numOf (big : Bool) (l : List UInt8) : Nat := if big then beNum l else leNum l
theorem numOf_lt (big : Bool) (l : List UInt8) : numOf big l < 256 ^ l.length := by unfold numOf; split; exact beNum_lt l; exact leNum_lt l
theorem pow_le8 (k : Nat) (h : k ≤ 8) : 256 ^ k ≤ 18446744073709551616 := by
 have : (256 : Nat) ^ k ≤ 256 ^ 8 := Nat.pow_le_pow_right (by omega) h
 simpa using this
theorem take_snoc8 (l : List UInt8) (k : Nat) (h : k < l.length) : l.take (k + 1) = l.take k ++ [l[k]?.getD 0] := by
 rw [List.take_add_one, List.getElem?_eq_getElem h]; rfl
theorem le_step (l : List UInt8) (k : Nat) (h : k < l.length) (h8 : l.length ≤ 8) :
  bits .or .u64 (leNum (l.take k) : Int) (IntKind.u64.wrap (IntKind.u64.wrap ((l[k]?.getD 0).toNat : Int) * 2 ^ (8 * k))) = (leNum (l.take (k + 1)) : Int) := by
 have hb := (l[k]?.getD 0).toNat_lt
 have hk : (l.take k).length = k := by simp; omega
 have hlt := leNum_lt (l.take k)
 rw [hk] at hlt
 have h256 : (256 : Nat) ^ k = 2 ^ (8 * k) := by rw [Nat.pow_mul]
 have hp : 256 ^ (k + 1) ≤ 18446744073709551616 := pow_le8 (k + 1) (by omega)
 rw [Nat.pow_succ] at hp
 have hx : (l[k]?.getD 0).toNat * 2 ^ (8 * k) < 18446744073709551616 := by
  rw [← h256]
  have : (l[k]?.getD 0).toNat * 256 ^ k < 256 * 256 ^ k := (Nat.mul_lt_mul_right (Nat.pow_pos (by omega))).2 hb
  omega
 have e1 : IntKind.u64.wrap ((l[k]?.getD 0).toNat : Int) = ((l[k]?.getD 0).toNat : Int) := by rw [IntKind.wrap_u64]; omega
 have e2 : ((l[k]?.getD 0).toNat : Int) * 2 ^ (8 * k) = (((l[k]?.getD 0).toNat * 2 ^ (8 * k) : Nat) : Int) := by push_cast; rfl
 rw [e1, e2, IntKind.wrap_u64, Int.emod_eq_of_lt (by omega) (by omega), u64_or_nat _ _ (by omega) hx, Nat.or_comm, nat_join (8 * k) _ _ (Nat.mul_mod_left _ _) (by omega), take_snoc8 l k h, leNum_snoc, hk, h256]
 omega
theorem be_step (l : List UInt8) (k : Nat) (h : k < l.length) (h8 : l.length ≤ 8) :
  bits .or .u64 (IntKind.u64.wrap ((beNum (l.take k) : Int) * 256)) (IntKind.u64.wrap ((l[k]?.getD 0).toNat : Int)) = (beNum (l.take (k + 1)) : Int) := by
 have hb := (l[k]?.getD 0).toNat_lt
 have hk : (l.take k).length = k := by simp; omega
 have hlt := beNum_lt (l.take k)
 rw [hk] at hlt
 have hp : 256 ^ (k + 1) ≤ 18446744073709551616 := pow_le8 (k + 1) (by omega)
 rw [Nat.pow_succ] at hp
 have e1 : IntKind.u64.wrap ((l[k]?.getD 0).toNat : Int) = ((l[k]?.getD 0).toNat : Int) := by rw [IntKind.wrap_u64]; omega
 have e2 : (beNum (l.take k) : Int) * 256 = ((beNum (l.take k) * 256 : Nat) : Int) := (Int.natCast_mul _ 256).symm
 rw [e1, e2, IntKind.wrap_u64, Int.emod_eq_of_lt (by omega) (by omega), u64_or_nat _ _ (by omega) (by omega), nat_join 8 _ _ (Nat.mul_mod_left _ 256) (show _ < 256 by omega), take_snoc8 l k h, beNum_snoc]
theorem number_some (b d off n cap at_ : Nat) (m : Nat) (big : Bool) (l : List UInt8) (w : World)
   (h : w.heap[b]? = some (.cells #[.slice (some ⟨d, off, none⟩) n cap, .int .i64 at_, .bool big, .bool false] 159 (0, 0)))
   (hn : n ≤ 140737488355328) (hc : n ≤ cap) (hc2 : cap ≤ 9223372036854775807) (hm : m = 1 ∨ m = 2 ∨ m = 4 ∨ m = 8) (hm2 : at_ + m ≤ n) (hbd : d ≠ b) (hll : l.length = m)
   (hl : ∀ j, j < m → w.cell? ⟨d, off + at_ + j, none⟩ = some (.int .u8 (l.getD j 0).toNat)) :
    Calls Tryz.prog 45 #[.pointer (some ⟨b, 0, none⟩), .int .i64 m] w fun e w' =>
      e = .returned (.int .u64 (numOf big l)) ∧ Dr (w.setCell ⟨b, 1, none⟩ (.int .i64 ((at_ : Int) + m))) w' := by
  rcases hm with rfl | rfl | rfl | rfl
  all_goals
    go_enter Tryz.func45, Tryz.ntmps45
    go_wp2_with fail
    refine (well_any b _ _ _ false true w h).mono ?_
    rintro e w' ⟨rfl, rfl⟩
    go_wp2_with fail
    refine (take_some b (some ⟨d, off, none⟩) n cap at_ _ _ w h (by omega) hn (by omega) (by omega) (by omega) hc hc2 (fun _ => ⟨_, _, rfl⟩)).mono ?_
    rintro e w1 ⟨rfl, hd⟩
    have hb2 := (hd.cell ⟨b, 2, none⟩).trans ((World.cell?_setCell_other w ⟨b, 1, none⟩ ⟨b, 2, none⟩ _ (by simp)).trans (cell_of_heap h 2))
    have hl2 := fun j hj => (hd.cell ⟨d, off + at_ + j, none⟩).trans ((World.cell?_setCell_other w ⟨b, 1, none⟩ ⟨d, off + at_ + j, none⟩ _ (by simp)).trans (hl j hj))
    clear hl h
    simp at hb2
    have HL := hY hll
    have HD := hY hd
    clear hll hd
    go_wp2_with fail
    go_loop [4, 5, 6, 28] (fun acc i x k28 => ∃ (k : Nat), k ≤ l.length ∧ k28 = .int .i64 k ∧ acc = .int .u64 (numOf big (l.take k))) (fun _ _ _ k28 => l.length - (intOf k28).toNat)
    case atStart => exact ⟨0, by omega, rfl, by cases big <;> rfl⟩
    case round =>
      obtain ⟨k, hk, rfl, rfl⟩ := hrel
      rw [HL.out] at hk
      by_cases hlt : k < l.length
      · have hlt' := hlt
        rw [HL.out] at hlt'
        have hlk := hl2 k hlt'
        have HS := hY (le_step l k hlt (by rw [HL.out]; omega))
        have HB := hY (be_step l k hlt (by rw [HL.out]; omega))
        have HX := hY hlt
        clear hlt hl2
        cases big
        all_goals
          simp only [numOf, if_true, if_false, Bool.false_eq_true]
          go_wp2
          go_round
          case rel => exact ⟨k + 1, HX.out, by go_num, by first | rw [HS.out] | rw [HB.out]⟩
          case measure => have := HX.out; simp [intOf]; omega
      · have hge := Nat.le_of_not_lt hlt
        have E2 := hY (List.take_of_length_le hge)
        rw [HL.out] at hge
        clear hlt hl2
        go_wp2
        go_ret
        exact ⟨by rw [E2.out]; rfl, HD.out⟩
end Go.Proofs.YtiljokmkiolpgaaGreatDoor
