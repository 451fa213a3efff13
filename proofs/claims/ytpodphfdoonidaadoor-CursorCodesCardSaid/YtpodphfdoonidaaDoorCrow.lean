/- A row of cursors that a call has made, carried from world to world. -/
import Derived.Test.YtpodphfdoonidaaDoorGrp2
namespace Go.Proofs.YtpodphfdoonidaaDoor
open Go.RowKit

theorem Rd_new (w : World) (xs : List Value) (T : TypeId) (n : Nat) (hn : n = xs.length) (hl : xs.length ≤ maxLen) : Rd (w.alloc (.cells xs.toArray T)) (.slice (some ⟨w.heap.size, 0, none⟩) n n) xs := by
  refine ⟨_, _, _, rfl, hn, Nat.le_refl _, by rw [hn]; exact hl, fun _ => ⟨_, _, rfl, fun j _ => ?_⟩⟩
  rw [Nat.zero_add, World.cell?_alloc_at _ _ _ _ rfl]
  simp

/-- Since world w0 nothing has turned but new blocks; there stand the cursors cs, no two of them one. -/
structure Curs (w0 w : World) (cs : List (Nat × CS)) : Prop where
  env : Env w
  chg : Chg [] w0 w
  all : ∀ p ∈ cs, w0.heap.size ≤ p.1 ∧ CurB w p.1 p.2
  nodup : (cs.map (·.1)).Nodup

theorem Curs.start {w : World} (h : Env w) : Curs w w [] := ⟨h, Chg.refl _ _, fun _ hp => (by cases hp), by simp⟩
theorem Curs.pure {w0 w w' : World} {cs : List (Nat × CS)} (h : Curs w0 w cs) (k : Chg [] w w') : Curs w0 w' cs :=
  ⟨h.env.frame k (by simp), h.chg.then k, fun p hp => ⟨(h.all p hp).1, (h.all p hp).2.frame k⟩, h.nodup⟩
theorem Curs.dr {w0 w w' : World} {cs : List (Nat × CS)} (h : Curs w0 w cs) (k : Dr w w') : Curs w0 w' cs := h.pure ((Chg.refl [] _).dr k)
theorem Curs.alloc {w0 w : World} {cs : List (Nat × CS)} (h : Curs w0 w cs) (o : Obj) : Curs w0 (w.alloc o) cs := h.pure ((Chg.refl [] _).alloc o)
theorem Curs.new {w0 w w' : World} {cs : List (Nat × CS)} {b : Nat} {s : CS} (h : Curs w0 w cs) (k : Chg [] w w') (hb : CurB w' b s) (hn : w.heap.size ≤ b) : Curs w0 w' ((b, s) :: cs) := by
  have h' := h.pure k
  refine ⟨h'.env, h'.chg, fun p hp => ?_, ?_⟩
  · cases hp with
    | head => exact ⟨Nat.le_trans h.chg.size hn, hb⟩
    | tail _ hp => exact h'.all p hp
  · rw [List.map_cons, List.nodup_cons]
    refine ⟨fun hm => ?_, h.nodup⟩
    obtain ⟨p, hp, he⟩ := List.mem_map.1 hm
    have := (h.all p hp).2.lt
    have he' : p.1 = b := he
    omega
theorem Curs.cur {w0 w : World} {cs : List (Nat × CS)} {b : Nat} {s : CS} (h : Curs w0 w ((b, s) :: cs)) : CurB w b s := (h.all (b, s) (List.mem_cons_self ..)).2
theorem Curs.tail {w0 w : World} {cs : List (Nat × CS)} {p : Nat × CS} (h : Curs w0 w (p :: cs)) : Curs w0 w cs :=
  ⟨h.env, h.chg, fun q hq => h.all q (List.mem_cons_of_mem _ hq), (List.nodup_cons.1 h.nodup).2⟩
/-- A call of a method of the first one. -/
theorem Curs.call {w0 w w' : World} {cs : List (Nat × CS)} {b : Nat} {s s' : CS} (h : Curs w0 w ((b, s) :: cs)) (hb : CurB w' b s') (k : Chg [b] w w') : Curs w0 w' ((b, s') :: cs) := by
  have hnd := List.nodup_cons.1 h.nodup
  have h0 := (h.all (b, s) (List.mem_cons_self ..)).1
  refine ⟨h.env.frame k (by have := env_ne h.env h.cur; simp; omega), h.chg.new k h0, fun p hp => ?_, h.nodup⟩
  cases hp with
  | head => exact ⟨h0, hb⟩
  | tail _ hp =>
    have hp' := h.all p (List.mem_cons_of_mem _ hp)
    refine ⟨hp'.1, hp'.2.frame2 h.cur (fun e => hnd.1 ?_) k⟩
    exact List.mem_map.2 ⟨p, hp, e⟩
theorem Curs.perm {w0 w : World} {cs cs' : List (Nat × CS)} (h : Curs w0 w cs) (hp : cs.Perm cs') : Curs w0 w cs' :=
  ⟨h.env, h.chg, fun p hm => h.all p (hp.mem_iff.2 hm), (hp.map _).nodup_iff.1 h.nodup⟩
theorem Curs.swap {w0 w : World} {cs : List (Nat × CS)} {p q : Nat × CS} (h : Curs w0 w (p :: q :: cs)) : Curs w0 w (q :: p :: cs) := h.perm (List.Perm.swap ..)
theorem Curs.third {w0 w : World} {cs : List (Nat × CS)} {p q r : Nat × CS} (h : Curs w0 w (p :: q :: r :: cs)) : Curs w0 w (r :: p :: q :: cs) :=
  h.perm ((List.Perm.cons p (List.Perm.swap ..)).trans (List.Perm.swap ..))
end Go.Proofs.YtpodphfdoonidaaDoor
