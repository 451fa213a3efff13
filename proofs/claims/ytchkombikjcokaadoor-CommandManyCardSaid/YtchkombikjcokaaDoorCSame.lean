/- clevisref04.Same of two lists that read alike; rows of commands that are the call's own read as lists. -/
import Derived.Test.YtchkombikjcokaaDoorReadT
import Derived.Test.YtchkombikjcokaaDoorMem
namespace Go.Proofs.YtchkombikjcokaaDoor
open Go.RowKit
set_option maxRecDepth 100000

theorem Rd_cut {w : World} {b off n cap : Nat} {l : List UInt8} (rd : Rd w (.slice (some ⟨b, off, none⟩) n cap) (bytesV l)) (p m c : Nat) (h : p + m ≤ l.length) (hc : m ≤ c) (hc2 : c ≤ maxLen) :
    Rd w (.slice (some ⟨b, off + p, none⟩) m c) (bytesV ((l.drop p).take m)) := by
  obtain ⟨a', n', cap', he, hn, h1, h2, h3⟩ := rd
  cases he
  have hl : ((l.drop p).take m).length = m := by simp; omega
  refine ⟨_, m, c, rfl, by rw [bytesV_length, hl], hc, hc2, fun _ => ⟨b, off + p, rfl, fun j hj => ?_⟩⟩
  rw [bytesV_length, hl] at hj
  obtain ⟨b', off', hb, hcell⟩ := h3 (by intro e; have := congrArg List.length e; rw [bytesV_length] at this; simp at this; rw [this] at h; simp at h; omega)
  cases hb
  rw [Nat.add_assoc, hcell (p + j) (by rw [bytesV_length]; omega), bytesV_get l _ (by omega), bytesV_get _ j (by rw [hl]; exact hj)]
  simp [List.getD_eq_getElem?_getD, hj]

theorem cmdV_get (ps : List (Cmd × Value)) (j c : Nat) (hj : j < ps.length) (hc : c < 2) : (cmdV ps)[j * 2 + c]? = #[Value.int .u32 ((ps.getD j ((0, []), .nilIface)).1.1 : Nat), (ps.getD j ((0, []), .nilIface)).2][c]? := by
  induction ps generalizing j with
  | nil => simp at hj
  | cons p r ih =>
    have e : cmdV (p :: r) = .int .u32 (p.1.1 : Nat) :: p.2 :: cmdV r := rfl
    rw [e]
    cases j with
    | zero => rw [Nat.zero_mul, Nat.zero_add]; match c, hc with
      | 0, _ => rfl
      | 1, _ => rfl
    | succ j =>
      rw [show (j + 1) * 2 + c = (j * 2 + c) + 1 + 1 by omega, List.getElem?_cons_succ, List.getElem?_cons_succ, ih j (by simpa using hj)]
      rfl
/-- A row of commands that is the call's own, whose bytes read. -/
theorem rd_of_own {w : World} {base : Nat} {v : Value} {ps : List (Cmd × Value)} (h : w.ownsRow base 26 2 v ps.length (cmdV ps))
    (he : ∀ p ∈ ps, ∃ a c, p.2 = .slice a p.1.2.length c ∧ Rd w p.2 (bytesV p.1.2)) : CmdRd w v (ps.map Prod.fst) := by
  obtain ⟨hl, hv⟩ := h
  rcases hv with ⟨rfl, h0⟩ | ⟨g, cap, cur, rfl, hb, hg, hnc, hcm, hcs, htake⟩
  · have : ps = [] := List.eq_nil_of_length_eq_zero h0
    subst this
    exact ⟨_, _, _, rfl, rfl, Nat.le_refl _, Nat.zero_le _, fun h => absurd rfl h⟩
  · refine ⟨_, _, _, rfl, by simp, hnc, hcm, fun _ => ⟨g, 0, rfl, lt_of_heap hg, fun j hj => ?_⟩⟩
    rw [List.length_map] at hj
    have key : ∀ c, c < 2 → w.cell? ⟨g, 0 + j * 2 + c, none⟩ = #[Value.int .u32 ((ps.getD j ((0, []), .nilIface)).1.1 : Nat), (ps.getD j ((0, []), .nilIface)).2][c]? := fun c hc => by
      rw [cell_of_heap hg, ← cmdV_get ps j c hj hc, ← htake, List.getElem?_take, if_pos (by omega), Nat.zero_add]
      simp
    have e : (ps.map Prod.fst).getD j (0, []) = (ps.getD j ((0, []), .nilIface)).1 := by simp [List.getD_eq_getElem?_getD, hj]
    rw [e]
    have hm : ps.getD j ((0, []), .nilIface) ∈ ps := by rw [List.getD_eq_getElem?_getD, List.getElem?_eq_getElem hj]; exact List.getElem_mem hj
    obtain ⟨a, c, hc1, hc2⟩ := he _ hm
    refine ⟨key 0 (by decide), a, c, ?_, by rw [← hc1]; exact hc2⟩
    rw [← hc1]
    exact key 1 (by decide)
theorem OutC.rd {w : World} {base : Nat} {v : Value} {ps : List (Cmd × Value)} (h : OutC w base v ps) : CmdRd w v (ps.map Prod.fst) :=
  rd_of_own h.own (fun p hp => by
    obtain ⟨a, c, hf⟩ := (h.each p hp).form
    exact ⟨a, c, hf, (h.each p hp).rd⟩)

set_option maxHeartbeats 2000000 in
theorem cmds_same (cs : List Cmd) (v v' : Value) (w : World) (rd : CmdRd w v cs) (rd' : CmdRd w v' cs) (hlen : cs.length ≤ 70368744177664) :
    Calls Tryd.prog 32 #[v, v'] w fun e w' => e = .returned (.bool true) ∧ Chg [] w w' := by
  obtain ⟨a, n, cap, rfl, rfl, hc1, hc2, hx⟩ := rd
  obtain ⟨a', n', cap', rfl, rfl, hc1', hc2', hx'⟩ := rd'
  unfold maxLen at hc2 hc2'
  have Hx := Lib.hid hx
  have HY := Lib.hid hx'
  clear hx hx'
  go_enter Tryd.func32, Tryd.ntmps32
  go_wp2_with fail
  go_loopw [5] (fun s5 wr => ∃ k : Nat, k ≤ cs.length ∧ s5 = .int .i64 (k : Int) ∧ Chg [] w wr) (fun s5 _ => cs.length - (intOf s5).toNat)
  case atStart => exact ⟨0, Nat.zero_le _, rfl, Chg.refl _ _⟩
  case round =>
    obtain ⟨k, hk, rfl, hch⟩ := hrel
    have Hch := Lib.hid hch
    clear hch
    by_cases hlt : k < cs.length
    · obtain ⟨b, off, rfl, _, hcell⟩ := Hx.out (by rintro rfl; simp at hlt)
      obtain ⟨b', off', rfl, _, hcell'⟩ := HY.out (by rintro rfl; simp at hlt)
      obtain ⟨h1, a1, c1, h2, h3⟩ := hcell k hlt
      obtain ⟨j1, a2, c2, j2, j3⟩ := hcell' k hlt
      obtain ⟨s, hs⟩ : ∃ s, s = cs.getD k (0, []) := ⟨_, rfl⟩
      rw [← hs] at h1 h2 h3 j1 j2 j3
      obtain ⟨c, u⟩ := s
      simp only at h1 h2 h3 j1 j2 j3
      replace h1 := Hch.out.cell h1 (by simp)
      replace h2 := Hch.out.cell h2 (by simp)
      replace j1 := Hch.out.cell j1 (by simp)
      replace j2 := Hch.out.cell j2 (by simp)
      have s1 : ∀ n, (convert 24 9 (.slice a1 u.length c1)).run Tryd.prog (wr.drewN n) = .ok (.string ⟨u.toArray⟩) (wr.drewN n) := fun n => run_str (h3.frame (Hch.out.drewN n) (fun _ _ hm => by cases hm))
      have s2 : ∀ n, (convert 24 9 (.slice a2 u.length c2)).run Tryd.prog (wr.drewN n) = .ok (.string ⟨u.toArray⟩) (wr.drewN n) := fun n => run_str (j3.frame (Hch.out.drewN n) (fun _ _ hm => by cases hm))
      clear hcell hcell' hs h3 j3
      go_wp2_with fail
      go_quiet (fail)
      go_wp2
      go_roundw
      case rel => exact ⟨k + 1, hlt, by go_num, Hch.out.drewN _⟩
      case measure => simp [intOf]; omega
    · obtain rfl : k = cs.length := by omega
      go_wp2
      go_ret
      exact ⟨rfl, Hch.out⟩
end Go.Proofs.YtchkombikjcokaaDoor
