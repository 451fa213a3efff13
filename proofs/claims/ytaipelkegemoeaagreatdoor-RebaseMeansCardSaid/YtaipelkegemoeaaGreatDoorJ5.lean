/- Lemmas, laid together: part 5 of 46. Conditions: none but each lemma's own. -/
import Derived.Test.YtaipelkegemoeaaGreatDoorJ2
import Derived.Shelf.LaysM
import Derived.Shelf.Strings.Search1
import Derived.Shelf.Strings.Search2
import Derived.Shelf.Strings.Search3
import Derived.Test.YtaipelkegemoeaaGreatDoorProg
import Derived.Test.YtaipelkegemoeaaGreatDoorJ4
import Derived.Test.YtaipelkegemoeaaGreatDoorJ3
import Derived.Laws.MakeOwn
import Derived.Test.YtaipelkegemoeaaGreatDoorJ1
/- Records: chains, starts (printed by mkrecs2.sh). -/
namespace Go.Proofs.YtaipelkegemoeaaGreatDoor
open Go.RowKit
set_option maxRecDepth 100000

/-- A record Chn. -/
structure Chn where
  starts : SlV
  imps : SlV
def Chn.cells (s : Chn) : List Value := [.slice s.starts.a s.starts.n s.starts.cap, .slice s.imps.a s.imps.n s.imps.cap]
abbrev Chn.v (s : Chn) : Value := .agg #[.slice s.starts.a s.starts.n s.starts.cap, .slice s.imps.a s.imps.n s.imps.cap]
/-- Its numbers are of their kinds. -/
def Chn.wf (_ : Chn) : Prop := True
def Chn.zero : Chn := ⟨⟨none, 0, 0⟩, ⟨none, 0, 0⟩⟩
def chnL : Lay Chn := ⟨2, Chn.cells, Chn.zero, fun _ => rfl, by decide, fun x u hu => by
  simp only [Chn.cells, List.mem_cons, List.not_mem_nil, or_false] at hu
  rcases hu with rfl | rfl <;> rfl⟩
theorem Chn.at {w : World} {b o : Nat} {s : Chn} (h : chnL.In w b o s) : w.cell? ⟨b, o, none⟩ = some (.slice s.starts.a s.starts.n s.starts.cap) ∧ w.cell? ⟨b, o + 1, none⟩ = some (.slice s.imps.a s.imps.n s.imps.cap) :=
  ⟨h 0 (by decide), h 1 (by decide)⟩
/-- A record in a block of its own: made, written, a field written. -/
theorem Chn.box (w : World) (s : Chn) (T : TypeId) : chnL.Box (w.alloc (.cells #[.slice s.starts.a s.starts.n s.starts.cap, .slice s.imps.a s.imps.n s.imps.cap] T)) w.heap.size s := Lay.Box.of_alloc (L := chnL) w s T
/-- A record Sta. -/
structure Sta where
  seg : Int
  page : Int
  fmt : Int
  begins : SlV
def Sta.cells (s : Sta) : List Value := [.int .i64 s.seg, .int .i64 s.page, .int .i64 s.fmt, .slice s.begins.a s.begins.n s.begins.cap]
abbrev Sta.v (s : Sta) : Value := .agg #[.int .i64 s.seg, .int .i64 s.page, .int .i64 s.fmt, .slice s.begins.a s.begins.n s.begins.cap]
/-- Its numbers are of their kinds. -/
def Sta.wf (s : Sta) : Prop := (Lit.int .i64 s.seg).wf = true ∧ (Lit.int .i64 s.page).wf = true ∧ (Lit.int .i64 s.fmt).wf = true
def Sta.zero : Sta := ⟨0, 0, 0, ⟨none, 0, 0⟩⟩
def staL : Lay Sta := ⟨4, Sta.cells, Sta.zero, fun _ => rfl, by decide, fun x u hu => by
  simp only [Sta.cells, List.mem_cons, List.not_mem_nil, or_false] at hu
  rcases hu with rfl | rfl | rfl | rfl <;> rfl⟩
theorem Sta.at {w : World} {b o : Nat} {s : Sta} (h : staL.In w b o s) : w.cell? ⟨b, o, none⟩ = some (.int .i64 s.seg) ∧ w.cell? ⟨b, o + 1, none⟩ = some (.int .i64 s.page) ∧ w.cell? ⟨b, o + 2, none⟩ = some (.int .i64 s.fmt) ∧ w.cell? ⟨b, o + 3, none⟩ = some (.slice s.begins.a s.begins.n s.begins.cap) :=
  ⟨h 0 (by decide), h 1 (by decide), h 2 (by decide), h 3 (by decide)⟩
/-- A record in a block of its own: made, written, a field written. -/
theorem Sta.box (w : World) (s : Sta) (T : TypeId) : staL.Box (w.alloc (.cells #[.int .i64 s.seg, .int .i64 s.page, .int .i64 s.fmt, .slice s.begins.a s.begins.n s.begins.cap] T)) w.heap.size s := Lay.Box.of_alloc (L := staL) w s T
theorem Sta.c_seg {w : World} {b : Nat} {s : Sta} (h : staL.Box w b s) : w.cell? ⟨b, 0, none⟩ = some (.int .i64 s.seg) := by have := h.in 0 (by decide); rw [Nat.zero_add] at this; exact this
end Go.Proofs.YtaipelkegemoeaaGreatDoor
/- Contracts of the library, proved once in the kit, laid at this seat's program: strings.Contains. -/
namespace Go.Proofs
open Go.Shelf
end Go.Proofs
/- chain: which ordinals may be; what reads imports of a format; starts of none. -/
namespace Go.Proofs.YtaipelkegemoeaaGreatDoor
open Go.RowKit
set_option maxRecDepth 100000

end Go.Proofs.YtaipelkegemoeaaGreatDoor
/- chain.bytes at format 3; at each. -/
namespace Go.Proofs.YtaipelkegemoeaaGreatDoor
open Go.RowKit
set_option maxRecDepth 100000

/-- An import's bytes, of any format. -/
def impBB (x : Imp) (name : Nat) (fmt : Int) : List UInt8 := if fmt = 3 then leB (u64N x.ord % 65536 + (if x.weak then 65536 else 0) + name * 4294967296) 8 ++ leB (u64N x.add) 8 else impB x name fmt
theorem impBB_len (x : Imp) (n : Nat) (f : Int) : (impBB x n f).length ≤ 16 := by
  unfold impBB impB
  split
  · simp [leB_len]
  · split <;> simp [leB_len]
end Go.Proofs.YtaipelkegemoeaaGreatDoor
/- Imports laid: the plain part of chain.named; two laws of look-ups. -/
namespace Go.Proofs.YtaipelkegemoeaaGreatDoor
open Go.RowKit
set_option maxRecDepth 100000

/-- Imports laid: their bytes, the names, where each name stands. -/
structure Nm where
  out : List UInt8
  ns : List UInt8
  pl : ByteArray → Option Nat
def Nm.zero : Nm := ⟨[], [0], fun _ => none⟩
/-- Where a name stands. -/
def Nm.at (s : Nm) (x : Imp) : Nat := (s.pl x.sym).getD s.ns.length
def Nm.step (fmt : Int) (s : Nm) (x : Imp) : Nm := ⟨s.out ++ impBB x (s.at x) fmt, if s.pl x.sym = none then s.ns ++ (x.sym.data.toList ++ [0]) else s.ns, if s.pl x.sym = none then (fun q => if q = x.sym then some s.ns.length else s.pl q) else s.pl⟩
/-- How long all of it is; no place is beyond the names. -/
structure Nm.Fit (s : Nm) (k : Nat) : Prop where
  out : s.out.length ≤ 16 * k
  ns : s.ns.length ≤ 1 + 301 * k
  pl : ∀ q n, s.pl q = some n → n ≤ s.ns.length
theorem Nm.Fit.at_le {s : Nm} {k : Nat} (h : s.Fit k) (x : Imp) : s.at x ≤ s.ns.length := by
  unfold Nm.at
  cases e : s.pl x.sym with
  | none => exact Nat.le_refl _
  | some n => exact h.pl _ _ e
theorem Nm.Fit.step {s : Nm} {k : Nat} (h : s.Fit k) (f : Int) (x : Imp) (hx : x.sym.size ≤ 300) : (s.step f x).Fit (k + 1) := by
  have h1 := h.out
  have h2 := h.ns
  have h3 := impBB_len x (s.at x) f
  have hs : x.sym.data.toList.length = x.sym.size := str_len _
  constructor
  · simp only [Nm.step, List.length_append]
    omega
  · simp only [Nm.step]
    split
    · simp only [List.length_append, List.length_singleton, hs]; omega
    · omega
  · intro q n
    simp only [Nm.step]
    split
    · intro e
      replace e : (if q = x.sym then some s.ns.length else s.pl q) = some n := e
      split at e
      · cases e; simp only [List.length_append]; omega
      · have := h.pl _ _ e; simp only [List.length_append]; omega
    · exact h.pl q n
theorem map_ne_buf {w : World} {base b : Nat} {v : Value} {l : List UInt8} {f : ByteArray → Option Value} (h : BB w base v l) (hm : Map.Is Map.strK w b f) : b ∉ v.ownBlock.toList := by
  intro hb
  obtain ⟨es, c, hh, _⟩ := hm
  rcases h.2 with ⟨rfl, _⟩ | ⟨g, cap, cur, rfl, _, hg, _⟩
  · cases hb
  · simp [Value.ownBlock] at hb
    subst hb
    rw [hh] at hg
    cases hg
/-- Two rows of bytes of the call's own, apart. -/
structure Duo (w : World) (base : Nat) (v6 : Value) (l6 : List UInt8) (v7 : Value) (l7 : List UInt8) : Prop where
  one : BB w base v6 l6
  two : BB w base v7 l7
  ne : ∀ b, v6.ownBlock = some b → v7.ownBlock ≠ some b
section
variable {w w' : World} {base : Nat} {v6 v7 : Value} {l6 l7 : List UInt8}
theorem Duo.pure (h : Duo w base v6 l6 v7 l7) (k : Chg [] w w') : Duo w' base v6 l6 v7 l7 := ⟨h.one.pure k, h.two.pure k, h.ne⟩
theorem Duo.map (h : Duo w base v6 l6 v7 l7) {q : Nat} {f : ByteArray → Option Value} (hm : Map.Is Map.strK w q f) (k : Chg [q] w w') : Duo w' base v6 l6 v7 l7 :=
  ⟨h.one.frame k (fun b hb hq => map_ne_buf h.one hm (by simp at hq; subst hq; simp [hb])), h.two.frame k (fun b hb hq => map_ne_buf h.two hm (by simp at hq; subst hq; simp [hb])), h.ne⟩
/-- The second one grew. -/
theorem Duo.grow (h : Duo w base v6 l6 v7 l7) {v : Value} {l : List UInt8} (hv : BB w' base v l) (hg : w.grownBy w' v7.ownBlock) (hl : v.ownBlock = v7.ownBlock ∨ v.ownBlock = some w.heap.size) : Duo w' base v6 l6 v l :=
  ⟨h.one.frame (Lay.chg_grown hg) (fun b hb hm => h.ne b hb (by simpa using hm)), hv, fun b hb hb2 => by
    rcases hl with e | e
    · exact h.ne b hb (e.symm.trans hb2)
    · have := (h.one.lt b hb).2
      rw [e] at hb2
      cases hb2
      omega⟩
theorem Duo.chg (h : Duo w base v6 l6 v7 l7) (hg : w.grownBy w' v7.ownBlock) {w0 : World} (hb : base = w0.heap.size) (k : Chg [] w0 w) : Chg [] w0 w' :=
  k.trans (Lay.chg_grown hg) (fun i hi hw => by have := (h.two.lt i (by simpa using hi)).1; omega)
theorem Duo.is (h : Duo w base v6 l6 v7 l7) {q : Nat} {f : ByteArray → Option Value} (hm : Map.Is Map.strK w q f) (hg : w.grownBy w' v7.ownBlock) : Map.Is Map.strK w' q f := hm.frameS (Lay.chg_grown hg) (map_ne_buf h.two hm)
end
section
variable {κ : Type} {K : Map.Key κ} {P : Program} {T : TypeId} {ops : Array Oper} {rest : List Oper} {a : Act} {Q : Exit → Act → World → Prop} {w : World}
/-- The same under a guard that is met. -/
theorem wpList_want {o : Oper} (hw : Region.wanted o (yielded ops a.tmps) = true) (h : ∀ K : Act → World → Prop, (∀ a w, wpList P ops Q rest a w → K a w) → o.wp P a w K Q) : wpList P ops Q (o :: rest) a w := wpList_step fun K hK => by rw [if_pos hw]; exact h K hK
theorem ldG {α : Type} {L : Lay α} (hT : Lay.Ty L P T) {d : Tmp} {s : Operand} {ty : TypeId} {pos : String} {after : Array Edge} {g : Nat × Bool} {b off : Nat} (x : α) (hx : L.In w b off x) (hw : Region.wanted ⟨some d, .load T s, ty, pos, after, some g⟩ (yielded ops a.tmps) = true) (hs : a.eval s = .pointer (some ⟨b, off, none⟩))
    (h : wpList P ops Q rest (a.put (some d) (.agg (L.f x).toArray)) w) : wpList P ops Q (⟨some d, .load T s, ty, pos, after, some g⟩ :: rest) a w := by
  refine wpList_want hw fun K hK => ?_
  unfold Oper.wp execOp
  simp only [Instr.loadAt, Instr.sureAddr, Sem.run_bind, Sem.run_pure, hs, Result.andThen_ok, Lay.run_load_rec hT hx]
  exact hK _ _ h
/-- A slice of one record, built. -/
theorem bs1 {α : Type} {L : Lay α} {E : TypeId} {d : Tmp} {s : Operand} {ty : TypeId} {pos : String} {after : Array Edge} {g : Option (Nat × Bool)} (x : α)
    (hr : ∀ w, (Instr.buildSlice T 1 #[(0, L.val x)]).run P w = .ok (.slice (some ⟨w.heap.size, 0, none⟩) 1 1) (w.alloc (.cells (L.f x).toArray E)))
    (hw : Region.wanted ⟨some d, .buildSlice T 1 #[(0, s)], ty, pos, after, g⟩ (yielded ops a.tmps) = true) (hs : a.eval s = L.val x)
    (h : ∀ W v, Chg [] w W → L.Rd W v [x] → wpList P ops Q rest (a.put (some d) v) W) : wpList P ops Q (⟨some d, .buildSlice T 1 #[(0, s)], ty, pos, after, g⟩ :: rest) a w := by
  refine wpList_want hw fun K hK => ?_
  have hrw := hr w
  unfold Oper.wp execOp
  simp only [List.map_toArray, List.map_cons, List.map_nil, hs, Sem.run_bind, hrw, Result.andThen_ok, Sem.run_pure]
  exact hK _ _ (h _ _ ((Chg.refl _ _).alloc _) (Lay.Rd.of_heap (heap_alloc_eq _ _) (Lay.vals_single x).symm rfl (show 1 ≤ maxLen by decide)))
end
end Go.Proofs.YtaipelkegemoeaaGreatDoor
/- The cursor's small methods, each walked once. -/
namespace Go.Proofs.YtaipelkegemoeaaGreatDoor
open Go.RowKit

theorem At_any (b : Nat) (al : Value) (at_ : Int) (bg fl : Value) (w : World) (h : w.heap[b]? = some (.cells #[al, .int .i64 at_, bg, fl] 95 (0, 0))) :
    Calls Tryz.prog 95 #[.pointer (some ⟨b, 0, none⟩)] w fun e w' => e = .returned (.int .i64 at_) ∧ w = w' := by
  have h1 := cell_of_heap h 1
  clear h
  simp at h1
  go_enter Tryz.func95, Tryz.ntmps95
  go_wp2
  go_ret
  exact ⟨rfl, rfl⟩
theorem Fail_any (b : Nat) (al at_ bg fl : Value) (w : World) (h : w.heap[b]? = some (.cells #[al, at_, bg, fl] 95 (0, 0))) :
    Calls Tryz.prog 66 #[.pointer (some ⟨b, 0, none⟩)] w fun e w' => e = .returned (.tuple #[]) ∧ w.setCell ⟨b, 3, none⟩ (.bool true) = w' := by
  have h3 := cell_of_heap h 3
  have f3 := frozen_of_heap h 3
  clear h
  simp at h3
  go_enter Tryz.func66, Tryz.ntmps66
  go_wp2
  go_end0
  exact ⟨rfl, rfl⟩
theorem Left_any (b : Nat) (a : Option Addr) (n cap : Nat) (at_ : Int) (bg fl : Value) (w : World) (h : w.heap[b]? = some (.cells #[.slice a n cap, .int .i64 at_, bg, fl] 95 (0, 0)))
   (h0 : 0 ≤ at_) (hn : n ≤ 140737488355328) (h2 : at_ ≤ n) :
    Calls Tryz.prog 24 #[.pointer (some ⟨b, 0, none⟩)] w fun e w' => e = .returned (.int .i64 (n - at_)) ∧ Dr w w' := by
  have hc0 := cell_of_heap h 0
  have hc1 := cell_of_heap h 1
  clear h
  simp at hc0 hc1
  go_enter Tryz.func24, Tryz.ntmps24
  go_wp2
  go_quiet (fail)
  go_wp2
  go_ret
  exact ⟨rfl, (Dr.refl _).drewN _⟩
theorem well_any (b : Nat) (al at_ bg : Value) (fl is : Bool) (w : World) (h : w.heap[b]? = some (.cells #[al, at_, bg, .bool fl] 95 (0, 0))) :
    Calls Tryz.prog 43 #[.pointer (some ⟨b, 0, none⟩), .bool is] w fun e w' => e = .returned (.bool (is && !fl)) ∧ (if is then w else w.setCell ⟨b, 3, none⟩ (.bool true)) = w' := by
  have h3 := cell_of_heap h 3
  simp at h3
  go_enter Tryz.func43, Tryz.ntmps43
  cases is
  · go_wp2_with fail
    refine (Fail_any b al at_ bg (.bool fl) w h).mono ?_
    rintro e w' ⟨rfl, rfl⟩
    have h3' : (w.setCell ⟨b, 3, none⟩ (.bool true)).cell? ⟨b, 3, none⟩ = some (.bool true) := World.cell?_setCell_same _ _ _ h3
    clear h
    go_wp2
    go_ret
    exact ⟨rfl, rfl⟩
  · clear h
    go_wp2
    go_ret
    exact ⟨by simp, rfl⟩
/-- take, where so many stand there. -/
theorem take_some (b : Nat) (a : Option Addr) (n cap : Nat) (at_ m : Int) (bg : Value) (w : World) (h : w.heap[b]? = some (.cells #[.slice a n cap, .int .i64 at_, bg, .bool false] 95 (0, 0)))
   (h0 : 0 ≤ at_) (hn : n ≤ 140737488355328) (h2 : at_ ≤ n) (hm : 0 ≤ m) (hm2 : m ≤ n - at_) (hc : n ≤ cap) (hc2 : cap ≤ 9223372036854775807) (ha : 0 < m → ∃ d off, a = some ⟨d, off, none⟩) :
    Calls Tryz.prog 44 #[.pointer (some ⟨b, 0, none⟩), .int .i64 m] w fun e w' =>
      e = .returned (.slice (if m = 0 then a else a.map fun x => ⟨x.block, x.off + at_.toNat, none⟩) m.toNat m.toNat) ∧ Dr (w.setCell ⟨b, 1, none⟩ (.int .i64 (at_ + m))) w' := by
  have hc0 := cell_of_heap h 0
  have hc1 := cell_of_heap h 1
  have f1 := frozen_of_heap h 1
  simp at hc0 hc1
  by_cases hm0 : m = 0
  · subst hm0
    go_enter Tryz.func44, Tryz.ntmps44
    go_wp2_with fail
    refine (Left_any b a n cap at_ bg _ w h h0 hn h2).mono ?_
    rintro e w' ⟨rfl, hd⟩; obtain ⟨q, rfl⟩ := hd.ex; clear hd
    go_wp2_with fail
    refine (well_any b _ (.int .i64 at_) bg false true (w.drewN q) h).mono ?_
    rintro e w' ⟨rfl, rfl⟩
    cases a with
    | none =>
      go_wp2
      go_quiet (fail)
      go_wp2
      go_ret
      exact ⟨rfl, (((Dr.refl _).drewN _).set _ _).drewN _⟩
    | some a =>
      go_wp2
      go_quiet (fail)
      go_wp2
      go_ret
      exact ⟨rfl, (((Dr.refl _).drewN _).set _ _).drewN _⟩
  · obtain ⟨d, off, rfl⟩ := ha (by omega)
    have hne : ¬ (at_ + m).toNat = at_.toNat := by omega
    go_enter Tryz.func44, Tryz.ntmps44
    go_wp2_with fail
    refine (Left_any b (some ⟨d, off, none⟩) n cap at_ bg _ w h h0 hn h2).mono ?_
    rintro e w' ⟨rfl, hd⟩; obtain ⟨q, rfl⟩ := hd.ex; clear hd
    go_wp2_with fail
    refine (well_any b _ (.int .i64 at_) bg false true (w.drewN q) h).mono ?_
    rintro e w' ⟨rfl, rfl⟩
    go_wp2
    go_quiet (fail)
    go_wp2
    go_ret
    have e1 : (at_ + m).toNat - at_.toNat = m.toNat := by omega
    exact ⟨by simp [e1], (((Dr.refl _).drewN _).set _ _).drewN _⟩
end Go.Proofs.YtaipelkegemoeaaGreatDoor
/- Plain lemmas: bytes as a number, either way round. No program in sight. -/
namespace Go.Proofs.YtaipelkegemoeaaGreatDoor
open Go.RowKit

def leNum : List UInt8 → Nat
  | [] => 0
  | x :: r => x.toNat + 256 * leNum r
def beNum (l : List UInt8) : Nat := l.foldl (fun n x => n * 256 + x.toNat) 0
theorem leNum_snoc (l : List UInt8) (x : UInt8) : leNum (l ++ [x]) = leNum l + x.toNat * 256 ^ l.length := by
  induction l with
  | nil => simp [leNum]
  | cons y r ih => simp only [List.cons_append, leNum, ih, List.length_cons, Nat.pow_succ, Nat.mul_add]; rw [Nat.add_assoc, ← Nat.mul_assoc, ← Nat.mul_assoc, Nat.mul_comm 256 x.toNat, Nat.mul_assoc x.toNat, Nat.mul_comm 256 (256 ^ r.length)]; simp [Nat.mul_assoc]
theorem leNum_lt (l : List UInt8) : leNum l < 256 ^ l.length := by
  induction l with
  | nil => simp [leNum]
  | cons y r ih => have := y.toNat_lt; simp only [leNum, List.length_cons, Nat.pow_succ]; omega
theorem beNum_snoc (l : List UInt8) (x : UInt8) : beNum (l ++ [x]) = beNum l * 256 + x.toNat := by simp [beNum]
theorem beNum_lt (l : List UInt8) : beNum l < 256 ^ l.length := by
  have h : ∀ (n : Nat) (m : List UInt8), m.length = n → beNum m < 256 ^ n := by
    intro n
    induction n with
    | zero => intro m hm; rw [List.length_eq_zero_iff.1 hm]; simp [beNum]
    | succ n ih =>
      intro m hm
      obtain ⟨r, x, rfl⟩ : ∃ r x, m = r ++ [x] := ⟨m.dropLast, m.getLast (by intro e; subst e; simp at hm), (List.dropLast_concat_getLast _).symm⟩
      have := ih r (by simpa using hm)
      have := x.toNat_lt
      rw [beNum_snoc, Nat.pow_succ]; omega
  exact h _ l rfl
theorem leNum_reverse (l : List UInt8) : leNum l.reverse = beNum l := by
  have h : ∀ (n : Nat) (m : List UInt8), m.length = n → leNum m.reverse = beNum m := by
    intro n
    induction n with
    | zero => intro m hm; rw [List.length_eq_zero_iff.1 hm]; simp [beNum, leNum]
    | succ n ih =>
      intro m hm
      obtain ⟨r, x, rfl⟩ : ∃ r x, m = r ++ [x] := ⟨m.dropLast, m.getLast (by intro e; subst e; simp at hm), (List.dropLast_concat_getLast _).symm⟩
      have := ih r (by simpa using hm)
      rw [beNum_snoc, List.reverse_append]; simp only [List.reverse_cons, List.reverse_nil, List.nil_append, List.cons_append, leNum, this]; omega
  exact h _ l rfl
/-- A number's bytes, whichever way round. -/
def numOf (big : Bool) (l : List UInt8) : Nat := if big then beNum l else leNum l
theorem pow_le8 (k : Nat) (h : k ≤ 8) : 256 ^ k ≤ 18446744073709551616 := by
  have : (256 : Nat) ^ k ≤ 256 ^ 8 := Nat.pow_le_pow_right (by omega) h
  simpa using this
theorem take_snoc8 (l : List UInt8) (k : Nat) (h : k < l.length) : l.take (k + 1) = l.take k ++ [l[k]?.getD 0] := by
  rw [List.take_add_one, List.getElem?_eq_getElem h]; rfl
theorem le_step (l : List UInt8) (k : Nat) (h : k < l.length) (h8 : l.length ≤ 8) :
    bits .or .u64 (leNum (l.take k) : Int) (IntKind.u64.wrap (IntKind.u64.wrap ((l[k]?.getD 0).toNat : Int) * 2 ^ (8 * k))) = (leNum (l.take (k + 1)) : Int) := by
  have hb := (l[k]?.getD 0).toNat_lt
  have hk : (l.take k).length = k := by simp; omega
  have hlt := leNum_lt (l.take k)
  rw [hk] at hlt
  have h256 : (256 : Nat) ^ k = 2 ^ (8 * k) := by rw [Nat.pow_mul]
  have hp : 256 ^ (k + 1) ≤ 18446744073709551616 := pow_le8 (k + 1) (by omega)
  rw [Nat.pow_succ] at hp
  have hx : (l[k]?.getD 0).toNat * 2 ^ (8 * k) < 18446744073709551616 := by
    rw [← h256]
    have : (l[k]?.getD 0).toNat * 256 ^ k < 256 * 256 ^ k := (Nat.mul_lt_mul_right (Nat.pow_pos (by omega))).2 hb
    omega
  have e1 : IntKind.u64.wrap ((l[k]?.getD 0).toNat : Int) = ((l[k]?.getD 0).toNat : Int) := by rw [IntKind.wrap_u64]; omega
  have e2 : ((l[k]?.getD 0).toNat : Int) * 2 ^ (8 * k) = (((l[k]?.getD 0).toNat * 2 ^ (8 * k) : Nat) : Int) := by push_cast; rfl
  rw [e1, e2, IntKind.wrap_u64, Int.emod_eq_of_lt (by omega) (by omega), u64_or_nat _ _ (by omega) hx, Nat.or_comm, nat_join (8 * k) _ _ (Nat.mul_mod_left _ _) (by omega), take_snoc8 l k h, leNum_snoc, hk, h256]
  omega
theorem be_step (l : List UInt8) (k : Nat) (h : k < l.length) (h8 : l.length ≤ 8) :
    bits .or .u64 (IntKind.u64.wrap ((beNum (l.take k) : Int) * 256)) (IntKind.u64.wrap ((l[k]?.getD 0).toNat : Int)) = (beNum (l.take (k + 1)) : Int) := by
  have hb := (l[k]?.getD 0).toNat_lt
  have hk : (l.take k).length = k := by simp; omega
  have hlt := beNum_lt (l.take k)
  rw [hk] at hlt
  have hp : 256 ^ (k + 1) ≤ 18446744073709551616 := pow_le8 (k + 1) (by omega)
  rw [Nat.pow_succ] at hp
  have e1 : IntKind.u64.wrap ((l[k]?.getD 0).toNat : Int) = ((l[k]?.getD 0).toNat : Int) := by rw [IntKind.wrap_u64]; omega
  have e2 : (beNum (l.take k) : Int) * 256 = ((beNum (l.take k) * 256 : Nat) : Int) := (Int.natCast_mul _ 256).symm
  rw [e1, e2, IntKind.wrap_u64, Int.emod_eq_of_lt (by omega) (by omega), u64_or_nat _ _ (by omega) (by omega), nat_join 8 _ _ (Nat.mul_mod_left _ 256) (show _ < 256 by omega), take_snoc8 l k h, beNum_snoc]
end Go.Proofs.YtaipelkegemoeaaGreatDoor
/- The cursor's Number, walked. -/
namespace Go.Proofs.YtaipelkegemoeaaGreatDoor
open Go.RowKit

theorem number_some (b d off n cap at_ : Nat) (m : Nat) (big : Bool) (l : List UInt8) (w : World)
   (h : w.heap[b]? = some (.cells #[.slice (some ⟨d, off, none⟩) n cap, .int .i64 at_, .bool big, .bool false] 95 (0, 0)))
   (hn : n ≤ 140737488355328) (hc : n ≤ cap) (hc2 : cap ≤ 9223372036854775807) (hm : m = 1 ∨ m = 2 ∨ m = 4 ∨ m = 8) (hm2 : at_ + m ≤ n) (hbd : d ≠ b) (hll : l.length = m)
   (hl : ∀ j, j < m → w.cell? ⟨d, off + at_ + j, none⟩ = some (.int .u8 (l.getD j 0).toNat)) :
    Calls Tryz.prog 25 #[.pointer (some ⟨b, 0, none⟩), .int .i64 m] w fun e w' =>
      e = .returned (.int .u64 (numOf big l)) ∧ Dr (w.setCell ⟨b, 1, none⟩ (.int .i64 ((at_ : Int) + m))) w' := by
  rcases hm with rfl | rfl | rfl | rfl
  all_goals
    go_enter Tryz.func25, Tryz.ntmps25
    go_wp2_with fail
    refine (well_any b _ _ _ false true w h).mono ?_
    rintro e w' ⟨rfl, rfl⟩
    go_wp2_with fail
    refine (take_some b (some ⟨d, off, none⟩) n cap at_ _ _ w h (by omega) hn (by omega) (by omega) (by omega) hc hc2 (fun _ => ⟨_, _, rfl⟩)).mono ?_
    rintro e w1 ⟨rfl, hd⟩
    have hb2 := (hd.cell ⟨b, 2, none⟩).trans ((World.cell?_setCell_other w ⟨b, 1, none⟩ ⟨b, 2, none⟩ _ (by simp)).trans (cell_of_heap h 2))
    have hl2 := fun j hj => (hd.cell ⟨d, off + at_ + j, none⟩).trans ((World.cell?_setCell_other w ⟨b, 1, none⟩ ⟨d, off + at_ + j, none⟩ _ (by simp)).trans (hl j hj))
    clear hl h
    simp at hb2
    have HL := Lib.hid hll
    have HD := Lib.hid hd
    clear hll hd
    go_wp2_with fail
    go_loop [4, 5, 6, 28] (fun acc i x k28 => ∃ (k : Nat), k ≤ l.length ∧ k28 = .int .i64 k ∧ acc = .int .u64 (numOf big (l.take k))) (fun _ _ _ k28 => l.length - (intOf k28).toNat)
    case atStart => exact ⟨0, by omega, rfl, by cases big <;> rfl⟩
    case round =>
      obtain ⟨k, hk, rfl, rfl⟩ := hrel
      rw [HL.out] at hk
      by_cases hlt : k < l.length
      · have hlt' := hlt
        rw [HL.out] at hlt'
        have hlk := hl2 k hlt'
        have HS := Lib.hid (le_step l k hlt (by rw [HL.out]; omega))
        have HB := Lib.hid (be_step l k hlt (by rw [HL.out]; omega))
        have HX := Lib.hid hlt
        clear hlt hl2
        cases big
        all_goals
          simp only [numOf, if_true, if_false, Bool.false_eq_true]
          go_wp2
          go_round
          case rel => exact ⟨k + 1, HX.out, by go_num, by first | rw [HS.out] | rw [HB.out]⟩
          case measure => have := HX.out; simp [intOf]; omega
      · have hge := Nat.le_of_not_lt hlt
        have E2 := Lib.hid (List.take_of_length_le hge)
        rw [HL.out] at hge
        clear hlt hl2
        go_wp2
        go_ret
        exact ⟨by rw [E2.out]; rfl, HD.out⟩
end Go.Proofs.YtaipelkegemoeaaGreatDoor
/- The cursor as an abstract state (bytes, place, which way round, failed), and what each method does to it. -/
namespace Go.Proofs.YtaipelkegemoeaaGreatDoor
open Go.RowKit

structure CS where
  l : List UInt8
  at_ : Nat
  big : Bool
  failed : Bool
/-- The cursor at block b is in state s. -/
def CurB (w : World) (b : Nat) (s : CS) : Prop :=
  ∃ a n cap, w.heap[b]? = some (.cells #[.slice a n cap, .int .i64 s.at_, .bool s.big, .bool s.failed] 95 (0, 0)) ∧ n = s.l.length ∧ n ≤ cap ∧ cap ≤ maxLen ∧ n ≤ 140737488355328 ∧ s.at_ ≤ n ∧
    (0 < n → ∃ d off c, a = some ⟨d, off, none⟩ ∧ d < b ∧ w.heap[d]? = some (.cells c 5 (0, 0)) ∧ ∀ j, j < n → w.cell? ⟨d, off + j, none⟩ = some (.int .u8 (s.l.getD j 0).toNat))

theorem CurB.lt {w : World} {b : Nat} {s : CS} (h : CurB w b s) : b < w.heap.size := by
  obtain ⟨a, n, cap, hb, _⟩ := h; exact lt_of_heap hb
theorem CurB.at_le {w : World} {b : Nat} {s : CS} (h : CurB w b s) : s.at_ ≤ s.l.length := by
  obtain ⟨a, n, cap, hb, rfl, _, _, _, h, _⟩ := h; exact h
theorem CurB.frame {w w' : World} {b : Nat} {s : CS} (h : CurB w b s) (k : Chg [] w w') : CurB w' b s := by
  obtain ⟨a, n, cap, hb, h1, h2, h3, h4, h5, h6⟩ := h
  refine ⟨a, n, cap, k.heap hb (by simp), h1, h2, h3, h4, h5, fun hn => ?_⟩
  obtain ⟨d, off, c, ha, hdb, hd, hc⟩ := h6 hn
  exact ⟨d, off, c, ha, hdb, k.heap hd (by simp), fun j hj => k.cell (hc j hj) (by simp)⟩
theorem CurB.frame2 {w w' : World} {b b2 : Nat} {s s2 : CS} (h : CurB w b s) (h2 : CurB w b2 s2) (hne : b ≠ b2) (k : Chg [b2] w w') : CurB w' b s := by
  obtain ⟨a, n, cap, hb, h1, h2', h3, h4, h5, h6⟩ := h
  obtain ⟨_, _, _, hb2, _⟩ := h2
  refine ⟨a, n, cap, k.heap hb (by simpa using hne), h1, h2', h3, h4, h5, fun hn => ?_⟩
  obtain ⟨d, off, c, ha, hdb, hd, hc⟩ := h6 hn
  have hd2 : d ∉ [b2] := by
    intro hm
    rw [List.mem_singleton] at hm
    subst hm
    rw [hd] at hb2
    simp at hb2
  exact ⟨d, off, c, ha, hdb, k.heap hd hd2, fun j hj => k.cell (hc j hj) hd2⟩
/-- A store into one of the cursor's own cells but the first. -/
theorem CurB.store {w w' : World} {b : Nat} {s s' : CS} (h : CurB w b s) (j : Nat) (v : Value) (hd : Dr (w.setCell ⟨b, j, none⟩ v) w') (hl : s'.l = s.l) (hat : s'.at_ ≤ s.l.length)
    (hs : ∀ x, (#[x, .int .i64 s.at_, .bool s.big, .bool s.failed] : Array Value).setIfInBounds j v = #[x, .int .i64 s'.at_, .bool s'.big, .bool s'.failed]) : CurB w' b s' ∧ Chg [b] w w' := by
  obtain ⟨a, n, cap, hb, h1, h2, h3, h4, h5, h6⟩ := h
  have hc : Chg [b] w w' := ((Chg.refl [b] w).setCell ⟨b, j, none⟩ v (.inl (by simp))).dr hd
  refine ⟨⟨a, n, cap, ?_, by rw [hl]; exact h1, h2, h3, h4, by rw [h1]; exact hat, fun hn => ?_⟩, hc⟩
  · rw [hd.heap, heap_setCell hb, hs]
  · obtain ⟨d, off, c, ha, hdb, hd', hc'⟩ := h6 hn
    exact ⟨d, off, c, ha, hdb, hc.heap hd' (by simp; omega), fun j hj => by rw [hl]; exact hc.cell (hc' j hj) (by simp; omega)⟩

def failS (s : CS) : CS := { s with failed := true }
def seekS (s : CS) (at_ : Int) : CS := if 0 ≤ at_ ∧ at_ ≤ s.l.length then (if s.failed then s else { s with at_ := at_.toNat }) else failS s
def okSize (n : Int) : Bool := n = 1 ∨ n = 2 ∨ n = 4 ∨ n = 8
/-- May so many bytes be taken? -/
def canTake (s : CS) (n : Int) : Bool := !s.failed && decide (0 ≤ n ∧ n ≤ s.l.length - s.at_)
def takeS (s : CS) (n : Int) : CS := if canTake s n then { s with at_ := s.at_ + n.toNat } else failS s
def takeL (s : CS) (n : Int) : List UInt8 := if canTake s n then (s.l.drop s.at_).take n.toNat else []
def numberS (s : CS) (n : Int) : CS := if okSize n then takeS s n else failS s
def numberV (s : CS) (n : Int) : Nat := if okSize n then numOf s.big (takeL s n) else 0

theorem At_cur (b : Nat) (s : CS) (w : World) (h : CurB w b s) : Calls Tryz.prog 95 #[.pointer (some ⟨b, 0, none⟩)] w fun e w' => e = .returned (.int .i64 s.at_) ∧ w = w' := by
  obtain ⟨a, n, cap, hb, _⟩ := h
  exact At_any b _ _ _ _ w hb
theorem Left_cur (b : Nat) (s : CS) (w : World) (h : CurB w b s) :
    Calls Tryz.prog 24 #[.pointer (some ⟨b, 0, none⟩)] w fun e w' => e = .returned (.int .i64 ((s.l.length : Int) - s.at_)) ∧ Dr w w' := by
  obtain ⟨a, n, cap, hb, rfl, h2, h3, h4, h5, h6⟩ := h
  exact Left_any b _ _ _ _ _ _ w hb (by omega) h4 (by omega)
theorem Fail_cur (b : Nat) (s : CS) (w : World) (h : CurB w b s) :
    Calls Tryz.prog 66 #[.pointer (some ⟨b, 0, none⟩)] w fun e w' => e = .returned (.tuple #[]) ∧ CurB w' b (failS s) ∧ Chg [b] w w' := by
  have h' := h
  obtain ⟨a, n, cap, hb, _⟩ := h
  refine (Fail_any b _ _ _ _ w hb).mono fun e w' ⟨he, hw⟩ => ⟨he, ?_⟩
  subst hw
  exact h'.store 3 _ (Dr.refl _) rfl h'.at_le (fun x => rfl)
theorem well_cur (b : Nat) (s : CS) (is : Bool) (w : World) (h : CurB w b s) :
    Calls Tryz.prog 43 #[.pointer (some ⟨b, 0, none⟩), .bool is] w fun e w' => e = .returned (.bool (is && !s.failed)) ∧ CurB w' b (if is then s else failS s) ∧ Chg [b] w w' := by
  have h' := h
  obtain ⟨a, n, cap, hb, _⟩ := h
  refine (well_any b _ _ _ _ is w hb).mono fun e w' ⟨he, hw⟩ => ⟨he, ?_⟩
  subst hw
  cases is
  · exact h'.store 3 _ (Dr.refl _) rfl h'.at_le (fun x => rfl)
  · exact ⟨h', Chg.refl _ _⟩

theorem Seek_cur (b : Nat) (s : CS) (at_ : Int) (w : World) (h : CurB w b s) :
    Calls Tryz.prog 96 #[.pointer (some ⟨b, 0, none⟩), .int .i64 at_] w fun e w' => e = .returned (.tuple #[]) ∧ CurB w' b (seekS s at_) ∧ Chg [b] w w' := by
  have h' := h
  obtain ⟨a, n, cap, hb, h1, h2, h3, h4, h5, h6⟩ := h
  have hc0 := cell_of_heap hb 0
  have hc1 := cell_of_heap hb 1
  have f1 := frozen_of_heap hb 1
  simp at hc0 hc1
  have H1 := Lib.hid h1
  have hat := Lib.hid h'.at_le
  clear h1 h6
  unfold maxLen at h3
  have HP : Hid ((0 ≤ at_ ∧ at_ ≤ n) = (0 ≤ at_ ∧ at_ ≤ (s.l.length : Int))) := by rw [← H1.out]; exact rfl
  have H' := Lib.hid h'
  clear h'
  by_cases hi : 0 ≤ at_ ∧ at_ ≤ n
  · obtain ⟨hi1, hi2⟩ := hi
    have HC : Hid (0 ≤ at_ ∧ at_ ≤ (s.l.length : Int)) := by show _; rw [← H1.out]; exact ⟨hi1, hi2⟩
    cases hf : s.failed with
    | true =>
      rw [hf] at hb
      have HF := Lib.hid hf
      clear hf
      go_enter Tryz.func96, Tryz.ntmps96
      go_wp2_with fail
      refine (well_any b _ _ _ true true w hb).mono ?_
      rintro e w' ⟨rfl, rfl⟩
      go_wp2
      go_end0
      exact ⟨rfl, by unfold seekS; rw [if_pos HC.out, if_pos HF.out]; exact H'.out, Chg.refl _ _⟩
    | false =>
      rw [hf] at hb
      have HF := Lib.hid hf
      clear hf
      go_enter Tryz.func96, Tryz.ntmps96
      go_wp2_with fail
      refine (well_any b _ _ _ false true w hb).mono ?_
      rintro e w' ⟨rfl, rfl⟩
      go_wp2
      go_end0
      refine ⟨rfl, ?_⟩
      unfold seekS; rw [if_pos HC.out, if_neg (by rw [HF.out]; decide)]
      refine H'.out.store 1 _ (Dr.refl _) rfl (by have := HC.out; show at_.toNat ≤ _; omega) (fun x => ?_)
      simp; omega
  · have HC : Hid (¬ (0 ≤ at_ ∧ at_ ≤ (s.l.length : Int))) := by show ¬ _; rw [← H1.out]; exact hi
    have hn : at_ < 0 ∨ (0 ≤ at_ ∧ n < at_) := by omega
    clear hi
    have hdec : 0 ≤ at_ → decide (at_ ≤ (n : Int)) = false := fun h => by simp; omega
    rcases hn with hn | ⟨hn1, hn2⟩
    rotate_left
    have hdec := hdec hn1
    rotate_left
    all_goals
      go_enter Tryz.func96, Tryz.ntmps96
      go_wp2_with fail
      refine (well_cur b s false w H'.out).mono ?_
      rintro e w' ⟨rfl, hcur, hchg⟩
      simp only [Bool.false_and]
      have HR := Lib.hid hcur
      have HG := Lib.hid hchg
      clear hcur hchg
      go_wp2
      go_end0
      refine ⟨rfl, ?_, HG.out⟩
      have := HR.out
      unfold seekS; rw [if_neg HC.out]; simpa using this
end Go.Proofs.YtaipelkegemoeaaGreatDoor
