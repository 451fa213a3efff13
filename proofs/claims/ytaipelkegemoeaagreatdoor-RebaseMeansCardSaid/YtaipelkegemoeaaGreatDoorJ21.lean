/- Lemmas, laid together: part 21 of 46. Conditions: none but each lemma's own. -/
import Derived.Test.YtaipelkegemoeaaGreatDoorJ20
import Derived.Test.YtaipelkegemoeaaGreatDoorJ9
import Derived.Test.YtaipelkegemoeaaGreatDoorJ6
import Derived.Laws.BitsLemmas
import Derived.Test.YtaipelkegemoeaaGreatDoorJ3
import Derived.StillTailTactics
/- The document's Seen: Take, whatever the command. -/
namespace Go.Proofs.YtaipelkegemoeaaGreatDoor
open Go.RowKit
set_option maxRecDepth 100000

/-- Take, whatever the command. -/
theorem Take_any (l : List UInt8) (hl : l.length ≤ 140737488355328) (v : Value) (w1 : World) (base bt : Nat) (p : TP) (t : Sen) (xs : List Seg) (w : World) (h : SInv w1 base bt p t xs w) (rd1 : byteL.Rd w1 v l) :
    Calls Tryz.prog 29 #[.pointer (some ⟨bt, 0, none⟩), v] w (SenSays w1 base bt (tE p l) (tS p l)) := by
  have rd := rd1.frame h.chg
  by_cases ho : opE l = 0
  · by_cases hk : leastF (n4 l 0) = 0
    · have h1 : tE p l = if 2147483648 ≤ n4 l 0 then 7 else 0 := by unfold tE; rw [if_neg (by simp [ho]), if_pos hk]
      have h2 : tS p l = p := by unfold tS; rw [if_pos hk]
      rw [h1, h2]
      exact take_unk l ho hk v w1 base bt p t xs w h rd
    · have hcs := known_cases hk
      rcases hcs with hc | hc | hc | hc | hc | hc | hc | hc | hc | hc | hc | hc
      · have hn : n4 l 0 = 25 := by omega
        have hE : tE p l = tE p l := rfl
        conv at hE => rhs; unfold tE; rw [if_neg (by simp [ho]), if_neg hk, hn, if_pos rfl]
        have hS : tS p l = tS p l := rfl
        conv at hS => rhs; unfold tS; rw [if_neg hk, hn, if_pos rfl]
        rw [hE, hS]
        exact take_seg l ho hc hl v w1 base bt p t xs w h rd
      · have hn : n4 l 0 = 12 := by omega
        have hE : tE p l = tE p l := rfl
        conv at hE => rhs; unfold tE; rw [if_neg (by simp [ho]), if_neg hk, hn, if_neg (by decide), if_pos (by decide)]
        have hS : tS p l = tS p l := rfl
        conv at hS => rhs; unfold tS; rw [if_neg hk, hn, if_neg (by decide), if_pos (by decide)]
        rw [hE, hS]
        exact take_dep l 12 1 (by decide) (by decide) (by decide) (by decide) (by decide) ho hc v w1 base bt p t xs w h rd
      · have hn : n4 l 0 = 2147483672 := by omega
        have hE : tE p l = tE p l := rfl
        conv at hE => rhs; unfold tE; rw [if_neg (by simp [ho]), if_neg hk, hn, if_neg (by decide), if_pos (by decide)]
        have hS : tS p l = tS p l := rfl
        conv at hS => rhs; unfold tS; rw [if_neg hk, hn, if_neg (by decide), if_pos (by decide)]
        rw [hE, hS]
        exact take_dep l 2147483672 2 (by decide) (by decide) (by decide) (by decide) (by decide) ho hc v w1 base bt p t xs w h rd
      · have hn : n4 l 0 = 2147483679 := by omega
        have hE : tE p l = tE p l := rfl
        conv at hE => rhs; unfold tE; rw [if_neg (by simp [ho]), if_neg hk, hn, if_neg (by decide), if_pos (by decide)]
        have hS : tS p l = tS p l := rfl
        conv at hS => rhs; unfold tS; rw [if_neg hk, hn, if_neg (by decide), if_pos (by decide)]
        rw [hE, hS]
        exact take_dep l 2147483679 3 (by decide) (by decide) (by decide) (by decide) (by decide) ho hc v w1 base bt p t xs w h rd
      · have hn : n4 l 0 = 2147483683 := by omega
        have hE : tE p l = tE p l := rfl
        conv at hE => rhs; unfold tE; rw [if_neg (by simp [ho]), if_neg hk, hn, if_neg (by decide), if_pos (by decide)]
        have hS : tS p l = tS p l := rfl
        conv at hS => rhs; unfold tS; rw [if_neg hk, hn, if_neg (by decide), if_pos (by decide)]
        rw [hE, hS]
        exact take_dep l 2147483683 4 (by decide) (by decide) (by decide) (by decide) (by decide) ho hc v w1 base bt p t xs w h rd
      · have hn : n4 l 0 = 13 := by omega
        have hE : tE p l = tE p l := rfl
        conv at hE => rhs; unfold tE; rw [if_neg (by simp [ho]), if_neg hk, hn, if_neg (by decide), if_neg (by decide), if_pos rfl]
        have hS : tS p l = tS p l := rfl
        conv at hS => rhs; unfold tS; rw [if_neg hk, hn, if_neg (by decide), if_neg (by decide), if_pos rfl]
        rw [hE, hS]
        exact take_name l ho hc v w1 base bt p t xs w h rd
      · have hn : n4 l 0 = 2147483699 := by omega
        have hE : tE p l = tE p l := rfl
        conv at hE => rhs; unfold tE; rw [if_neg (by simp [ho]), if_neg hk, hn, if_neg (by decide), if_neg (by decide), if_neg (by decide), if_pos rfl]
        have hS : tS p l = tS p l := rfl
        conv at hS => rhs; unfold tS; rw [if_neg hk, hn, if_neg (by decide), if_neg (by decide), if_neg (by decide), if_pos rfl]
        rw [hE, hS]
        exact take_rest l 2147483699 _ _ (by decide) (by decide) (by decide) (by decide) ho hc v w1 base bt p t xs w (rest_tr l (spAt l 0) (fun v w rd => Spans5_1 l ho (.inl hc) v w rd) v w1 base bt p t xs w h rd) h rd
      · have hn : n4 l 0 = 2147483688 := by omega
        have hE : tE p l = tE p l := rfl
        conv at hE => rhs; unfold tE; rw [if_neg (by simp [ho]), if_neg hk, hn, if_neg (by decide), if_neg (by decide), if_neg (by decide), if_neg (by decide), if_neg (by decide : ¬ (2147483688 = 34 ∨ 2147483688 = 2147483682))]
        have hS : tS p l = tS p l := rfl
        conv at hS => rhs; unfold tS; rw [if_neg hk, hn, if_neg (by decide), if_neg (by decide), if_neg (by decide), if_neg (by decide), if_pos rfl]
        rw [hE, hS]
        exact take_rest l 2147483688 _ _ (by decide) (by decide) (by decide) (by decide) ho hc v w1 base bt p t xs w (rest_en l ho hc v w1 base bt p t xs w h rd1) h rd
      · have hn : n4 l 0 = 2 := by omega
        have hE : tE p l = tE p l := rfl
        conv at hE => rhs; unfold tE; rw [if_neg (by simp [ho]), if_neg hk, hn, if_neg (by decide), if_neg (by decide), if_neg (by decide), if_neg (by decide), if_neg (by decide : ¬ (2 = 34 ∨ 2 = 2147483682))]
        have hS : tS p l = tS p l := rfl
        conv at hS => rhs; unfold tS; rw [if_neg hk, hn, if_neg (by decide), if_neg (by decide), if_neg (by decide), if_neg (by decide), if_neg (by decide), if_pos rfl]
        rw [hE, hS]
        exact take_rest l 2 _ _ (by decide) (by decide) (by decide) (by decide) ho hc v w1 base bt p t xs w (rest_sy l ⟨n4 l 8, (n4 l 12 : Int) * 16⟩ (spAt l 1) (fun v w rd => Spans5_2 l ho hc v w rd) v w1 base bt p t xs w h rd) h rd
      · have hn : n4 l 0 = 2147483700 := by omega
        have hE : tE p l = tE p l := rfl
        conv at hE => rhs; unfold tE; rw [if_neg (by simp [ho]), if_neg hk, hn, if_neg (by decide), if_neg (by decide), if_neg (by decide), if_neg (by decide), if_neg (by decide : ¬ (2147483700 = 34 ∨ 2147483700 = 2147483682))]
        have hS : tS p l = tS p l := rfl
        conv at hS => rhs; unfold tS; rw [if_neg hk, hn, if_neg (by decide), if_neg (by decide), if_neg (by decide), if_neg (by decide), if_neg (by decide), if_neg (by decide), if_pos rfl]
        rw [hE, hS]
        exact take_rest l 2147483700 _ _ (by decide) (by decide) (by decide) (by decide) ho hc v w1 base bt p t xs w (rest_ch l (spAt l 0) (fun v w rd => Spans5_1 l ho (.inr hc) v w rd) v w1 base bt p t xs w h rd) h rd
      · have hn : n4 l 0 = 34 := by omega
        have hE : tE p l = tE p l := rfl
        conv at hE => rhs; unfold tE; rw [if_neg (by simp [ho]), if_neg hk, hn, if_neg (by decide), if_neg (by decide), if_neg (by decide), if_neg (by decide), if_pos (by decide : (34 = 34 ∨ 34 = 2147483682))]
        have hS : tS p l = tS p l := rfl
        conv at hS => rhs; unfold tS; rw [if_neg hk, hn, if_neg (by decide), if_neg (by decide), if_neg (by decide), if_neg (by decide), if_neg (by decide), if_neg (by decide), if_neg (by decide)]
        rw [hE, hS]
        exact take_rest l 34 _ _ (by decide) (by decide) (by decide) (by decide) ho hc v w1 base bt p t xs w (rest_5 l 34 (.inl rfl) (spAt l 0) (spAt l 1) (spAt l 2) (spAt l 3) (spAt l 4) (fun v w rd => Spans5_5 l ho (.inl hc) v w rd) v w1 base bt p t xs w h rd) h rd
      · have hn : n4 l 0 = 2147483682 := by omega
        have hE : tE p l = tE p l := rfl
        conv at hE => rhs; unfold tE; rw [if_neg (by simp [ho]), if_neg hk, hn, if_neg (by decide), if_neg (by decide), if_neg (by decide), if_neg (by decide), if_pos (by decide : (2147483682 = 34 ∨ 2147483682 = 2147483682))]
        have hS : tS p l = tS p l := rfl
        conv at hS => rhs; unfold tS; rw [if_neg hk, hn, if_neg (by decide), if_neg (by decide), if_neg (by decide), if_neg (by decide), if_neg (by decide), if_neg (by decide), if_neg (by decide)]
        rw [hE, hS]
        exact take_rest l 2147483682 _ _ (by decide) (by decide) (by decide) (by decide) ho hc v w1 base bt p t xs w (rest_5 l 2147483682 (.inr rfl) (spAt l 0) (spAt l 1) (spAt l 2) (spAt l 3) (spAt l 4) (fun v w rd => Spans5_5 l ho (.inr hc) v w rd) v w1 base bt p t xs w h rd) h rd
  · have h1 : tE p l = 3 := by unfold tE; rw [if_pos ho]
    rw [h1]
    exact take_bad l ho v w1 base bt p _ t xs w h rd
end Go.Proofs.YtaipelkegemoeaaGreatDoor
/- clevisref04.Same of two lists that read alike; rows of commands that are the call's own read as lists. -/
namespace Go.Proofs.YtaipelkegemoeaaGreatDoor
open Go.RowKit
set_option maxRecDepth 100000

theorem Rd_cut {w : World} {b off n cap : Nat} {l : List UInt8} (rd : Rd w (.slice (some ⟨b, off, none⟩) n cap) (bytesV l)) (p m c : Nat) (h : p + m ≤ l.length) (hc : m ≤ c) (hc2 : c ≤ maxLen) :
    Rd w (.slice (some ⟨b, off + p, none⟩) m c) (bytesV ((l.drop p).take m)) := by
  obtain ⟨a', n', cap', he, hn, h1, h2, h3⟩ := rd
  cases he
  have hl : ((l.drop p).take m).length = m := by simp; omega
  refine ⟨_, m, c, rfl, by rw [bytesV_length, hl], hc, hc2, fun _ => ⟨b, off + p, rfl, fun j hj => ?_⟩⟩
  rw [bytesV_length, hl] at hj
  obtain ⟨b', off', hb, hcell⟩ := h3 (by intro e; have := congrArg List.length e; rw [bytesV_length] at this; simp at this; rw [this] at h; simp at h; omega)
  cases hb
  rw [Nat.add_assoc, hcell (p + j) (by rw [bytesV_length]; omega), bytesV_get l _ (by omega), bytesV_get _ j (by rw [hl]; exact hj)]
  simp [List.getD_eq_getElem?_getD, hj]

theorem cmdV_get (ps : List (Cmd × Value)) (j c : Nat) (hj : j < ps.length) (hc : c < 2) : (cmdV ps)[j * 2 + c]? = #[Value.int .u32 ((ps.getD j ((0, []), .nilIface)).1.1 : Nat), (ps.getD j ((0, []), .nilIface)).2][c]? := by
  induction ps generalizing j with
  | nil => simp at hj
  | cons p r ih =>
    have e : cmdV (p :: r) = .int .u32 (p.1.1 : Nat) :: p.2 :: cmdV r := rfl
    rw [e]
    cases j with
    | zero => rw [Nat.zero_mul, Nat.zero_add]; match c, hc with
      | 0, _ => rfl
      | 1, _ => rfl
    | succ j =>
      rw [show (j + 1) * 2 + c = (j * 2 + c) + 1 + 1 by omega, List.getElem?_cons_succ, List.getElem?_cons_succ, ih j (by simpa using hj)]
      rfl
/-- A row of commands that is the call's own, whose bytes read. -/
theorem rd_of_own {w : World} {base : Nat} {v : Value} {ps : List (Cmd × Value)} (h : w.ownsRow base 82 2 v ps.length (cmdV ps))
    (he : ∀ p ∈ ps, ∃ a c, p.2 = .slice a p.1.2.length c ∧ Rd w p.2 (bytesV p.1.2)) : CmdRd w v (ps.map Prod.fst) := by
  obtain ⟨hl, hv⟩ := h
  rcases hv with ⟨rfl, h0⟩ | ⟨g, cap, cur, rfl, hb, hg, hnc, hcm, hcs, htake⟩
  · have : ps = [] := List.eq_nil_of_length_eq_zero h0
    subst this
    exact ⟨_, _, _, rfl, rfl, Nat.le_refl _, Nat.zero_le _, fun h => absurd rfl h⟩
  · refine ⟨_, _, _, rfl, by simp, hnc, hcm, fun _ => ⟨g, 0, rfl, lt_of_heap hg, fun j hj => ?_⟩⟩
    rw [List.length_map] at hj
    have key : ∀ c, c < 2 → w.cell? ⟨g, 0 + j * 2 + c, none⟩ = #[Value.int .u32 ((ps.getD j ((0, []), .nilIface)).1.1 : Nat), (ps.getD j ((0, []), .nilIface)).2][c]? := fun c hc => by
      rw [cell_of_heap hg, ← cmdV_get ps j c hj hc, ← htake, List.getElem?_take, if_pos (by omega), Nat.zero_add]
      simp
    have e : (ps.map Prod.fst).getD j (0, []) = (ps.getD j ((0, []), .nilIface)).1 := by simp [List.getD_eq_getElem?_getD, hj]
    rw [e]
    have hm : ps.getD j ((0, []), .nilIface) ∈ ps := by rw [List.getD_eq_getElem?_getD, List.getElem?_eq_getElem hj]; exact List.getElem_mem hj
    obtain ⟨a, c, hc1, hc2⟩ := he _ hm
    refine ⟨key 0 (by decide), a, c, ?_, by rw [← hc1]; exact hc2⟩
    rw [← hc1]
    exact key 1 (by decide)
theorem OutC.rd {w : World} {base : Nat} {v : Value} {ps : List (Cmd × Value)} (h : OutC w base v ps) : CmdRd w v (ps.map Prod.fst) :=
  rd_of_own h.own (fun p hp => by
    obtain ⟨a, c, hf⟩ := (h.each p hp).form
    exact ⟨a, c, hf, (h.each p hp).rd⟩)

end Go.Proofs.YtaipelkegemoeaaGreatDoor
/- fat.alike, find, Pick and the document's. -/
namespace Go.Proofs.YtaipelkegemoeaaGreatDoor
open Go.RowKit
set_option maxRecDepth 100000

/-- A slice of a fat file. -/
structure SL where
  cpu : Nat
  sub : Nat
  off : Nat
  size : Nat
  align : Int
def SL.val (s : SL) : Value := .agg #[.int .u32 s.cpu, .int .u32 s.sub, .int .u64 s.off, .int .u64 s.size, .int .i64 s.align]
def SL.zero : SL := ⟨0, 0, 0, 0, 0⟩
def SL.ok (s : SL) : Prop := s.cpu < 4294967296 ∧ s.sub < 4294967296 ∧ s.off < 18446744073709551616 ∧ s.size < 18446744073709551616 ∧ -9223372036854775808 ≤ s.align ∧ s.align < 9223372036854775808
end Go.Proofs.YtaipelkegemoeaaGreatDoor
/- fat.find, Pick and the document's, walked. -/
namespace Go.Proofs.YtaipelkegemoeaaGreatDoor
open Go.RowKit
set_option maxRecDepth 100000

/-- The slice value v of slices reads as ls. -/
def SlRd (w : World) (v : Value) (ls : List SL) : Prop :=
  ∃ a n cap, v = .slice a n cap ∧ n = ls.length ∧ n ≤ cap ∧ cap ≤ maxLen ∧
    (ls ≠ [] → ∃ b off, a = some ⟨b, off, none⟩ ∧ b < w.heap.size ∧ ∀ j, j < ls.length →
      w.cell? ⟨b, off + j * 5, none⟩ = some (.int .u32 (ls.getD j .zero).cpu) ∧
      w.cell? ⟨b, off + j * 5 + 1, none⟩ = some (.int .u32 (ls.getD j .zero).sub) ∧
      w.cell? ⟨b, off + j * 5 + 2, none⟩ = some (.int .u64 (ls.getD j .zero).off) ∧
      w.cell? ⟨b, off + j * 5 + 3, none⟩ = some (.int .u64 (ls.getD j .zero).size) ∧
      w.cell? ⟨b, off + j * 5 + 4, none⟩ = some (.int .i64 (ls.getD j .zero).align))
theorem SlRd.frame {w w' : World} {v : Value} {ls : List SL} (h : SlRd w v ls) (k : Chg [] w w') : SlRd w' v ls := by
  obtain ⟨a, n, cap, rfl, hn, hc, hm, hx⟩ := h
  refine ⟨a, n, cap, rfl, hn, hc, hm, fun hne => ?_⟩
  obtain ⟨b, off, rfl, hb, hcell⟩ := hx hne
  refine ⟨b, off, rfl, Nat.lt_of_lt_of_le hb k.size, fun j hj => ?_⟩
  obtain ⟨h1, h2, h3, h4, h5⟩ := hcell j hj
  exact ⟨k.cell h1 (by simp), k.cell h2 (by simp), k.cell h3 (by simp), k.cell h4 (by simp), k.cell h5 (by simp)⟩

end Go.Proofs.YtaipelkegemoeaaGreatDoor
/- fat.Pick and the document's, walked. -/
namespace Go.Proofs.YtaipelkegemoeaaGreatDoor
open Go.RowKit
set_option maxRecDepth 100000

end Go.Proofs.YtaipelkegemoeaaGreatDoor
/- fat.whole, walked. -/
namespace Go.Proofs.YtaipelkegemoeaaGreatDoor
open Go.RowKit
set_option maxRecDepth 100000

end Go.Proofs.YtaipelkegemoeaaGreatDoor
/- fat.entries without entries, read, Slices, walked for known. -/
namespace Go.Proofs.YtaipelkegemoeaaGreatDoor
open Go.RowKit
set_option maxRecDepth 100000

end Go.Proofs.YtaipelkegemoeaaGreatDoor
/- The document's cursor: Number, where so many bytes stand there. -/
namespace Go.Proofs.YtaipelkegemoeaaGreatDoor
open Go.RowKit
set_option maxRecDepth 100000

theorem need_ok (b : Nat) (al at_ bg : Value) (w : World) (h : w.heap[b]? = some (.cells #[al, at_, bg, .bool false] 121 (0, 0))) :
    Calls Tryz.prog 77 #[.pointer (some ⟨b, 0, none⟩), .bool true] w fun e w' => e = .returned (.bool false) ∧ w'.heap[b]? = some (.cells #[al, at_, bg, .bool false] 121 (0, 0)) ∧ Chg [b] w w' := by
  have h3 := cell_of_heap h 3
  have f3 := frozen_of_heap h 3
  have H := Lib.hid h
  clear h
  simp at h3
  go_enter Tryz.func77, Tryz.ntmps77
  go_wp2
  go_ret
  exact ⟨rfl, heap_setCell H.out 3 _, (Chg.refl _ _).setCell _ _ (.inl (by simp))⟩
set_option maxHeartbeats 1000000 in
theorem RBytes_some (b d off n cap : Nat) (m : Nat) (bg : Value) (w : World)
   (h : w.heap[b]? = some (.cells #[.slice (some ⟨d, off, none⟩) n cap, .int .i64 0, bg, .bool false] 121 (0, 0)))
   (hn : n ≤ 140737488355328) (hc : n ≤ cap) (hc2 : cap ≤ 9223372036854775807) (hm : 0 < m) (hm2 : m ≤ n) :
    Calls Tryz.prog 78 #[.pointer (some ⟨b, 0, none⟩), .int .i64 m] w fun e w' => e = .returned (.slice (some ⟨d, off, none⟩) m cap) ∧
      w'.heap[b]? = some (.cells #[.slice (some ⟨d, off, none⟩) n cap, .int .i64 m, bg, .bool false] 121 (0, 0)) ∧ Chg [b] w w' := by
  have hc0 := cell_of_heap h 0
  have hc1 := cell_of_heap h 1
  simp at hc0 hc1
  have HH := Lib.hid h
  clear h
  have k1 : decide ((m : Int) ≤ (n : Int)) = true := by simp; omega
  go_enter Tryz.func78, Tryz.ntmps78
  go_wp2_with fail
  refine wp_region_still_tail 17 (by kernel_rfl) (by kernel_rfl) ?_
  simp only [List.take_succ_cons, List.take_zero, List.drop_succ_cons, List.drop_zero]
  change wpStill _ _ w.drew _ _ _
  repeat still_step
  refine wpStill_nil ?_
  change wpList _ _ _ _ _ w.drew
  go_wp2_with fail
  rw [k1]
  refine (need_ok b _ _ _ w.drew HH.out).mono ?_
  rintro e w1 ⟨rfl, hb1, hch⟩
  have g0 := cell_of_heap hb1 0
  have g1 := cell_of_heap hb1 1
  have f1 := frozen_of_heap hb1 1
  simp at g0 g1
  have HB1 := Lib.hid (hb1)
  have HC1 := Lib.hid (((Chg.refl [b] w).drew).same hch)
  clear hb1 hch hc0 hc1
  go_wp2_with fail
  go_quiet (fail)
  go_wp2
  go_ret
  exact ⟨rfl, heap_setCell HB1.out 1 _, (HC1.out.drewN _).setCell _ _ (.inl (by simp))⟩

theorem ref_step (r : List UInt8) (k : Nat) (h : k < r.length) (h8 : r.length ≤ 8) :
    IntKind.u64.wrap (IntKind.u64.wrap ((beNum (r.take k) : Int) * 256) + IntKind.u64.wrap ((r[k]?.getD 0).toNat : Int)) = (beNum (r.take (k + 1)) : Int) := by
  have hb := (r[k]?.getD 0).toNat_lt
  have hk : (r.take k).length = k := by simp; omega
  have hlt := beNum_lt (r.take k)
  rw [hk] at hlt
  have hp : 256 ^ (k + 1) ≤ 18446744073709551616 := pow_le8 (k + 1) (by omega)
  rw [Nat.pow_succ] at hp
  rw [IntKind.wrap_u64, IntKind.wrap_u64, IntKind.wrap_u64, take_snoc8 r k h, beNum_snoc]
  omega
def way (big : Bool) (l : List UInt8) : List UInt8 := if big then l else l.reverse
theorem beNum_way (big : Bool) (l : List UInt8) : beNum (way big l) = numOf big l := by
  cases big with
  | true => rfl
  | false => unfold way numOf; simp only [Bool.false_eq_true, if_false]; rw [← leNum_reverse, List.reverse_reverse]

set_option maxHeartbeats 1000000 in
theorem RNumber_some (b d off n cap : Nat) (m : Nat) (big : Bool) (l : List UInt8) (w : World)
   (h : w.heap[b]? = some (.cells #[.slice (some ⟨d, off, none⟩) n cap, .int .i64 0, .bool big, .bool false] 121 (0, 0)))
   (hn : n ≤ 140737488355328) (hc : n ≤ cap) (hc2 : cap ≤ 9223372036854775807) (hm : m = 4 ∨ m = 8) (hm2 : m ≤ n) (hbd : d ≠ b) (hll : l.length = m)
   (hl : ∀ j, j < m → w.cell? ⟨d, off + j, none⟩ = some (.int .u8 (l.getD j 0).toNat)) :
    Calls Tryz.prog 60 #[.pointer (some ⟨b, 0, none⟩), .int .i64 m] w fun e w' => e = .returned (.int .u64 (numOf big l)) ∧ Chg [b] w w' := by
  have HW : Hid (beNum (way big l) = numOf big l) := Lib.hid (beNum_way big l)
  have hwl : (way big l).length = m := by unfold way; split <;> simp [hll]
  have HST : Hid (∀ k, k < m → IntKind.u64.wrap (IntKind.u64.wrap ((beNum ((way big l).take k) : Int) * 256) + IntKind.u64.wrap (((way big l)[k]?.getD 0).toNat : Int)) = (beNum ((way big l).take (k + 1)) : Int)) := Lib.hid (fun k hk => ref_step _ k (by omega) (by omega))
  have HFULL : Hid ((way big l).take m = way big l) := Lib.hid (List.take_of_length_le (by omega))
  have HCELL : Hid (∀ W, Chg [b] w W → ∀ k, k < m → W.cell? ⟨d, off + (if big then k else m - 1 - k), none⟩ = some (.int .u8 ((way big l).getD k 0).toNat)) := by
    refine Lib.hid ?_
    intro W hW k hk
    have hd : d ∉ [b] := by simpa using hbd
    cases big with
    | true => exact hW.cell (hl k hk) hd
    | false =>
      have := hW.cell (hl (m - 1 - k) (by omega)) hd
      simp only [Bool.false_eq_true, if_false]
      rw [this]
      unfold way
      simp only [Bool.false_eq_true, if_false, List.getD_eq_getElem?_getD]
      rw [List.getElem?_reverse (by omega), hll]
  have HH := Lib.hid h
  have HWL := Lib.hid hwl
  clear h hwl
  clear hl hll hbd
  rcases hm with rfl | rfl
  all_goals
    go_enter Tryz.func60, Tryz.ntmps60
    go_wp2_with fail
    refine (need_ok b _ _ _ w HH.out).mono ?_
    rintro e w1 ⟨rfl, hb1, hch1⟩
    have Hb1 := Lib.hid hb1
    have Hch1 := Lib.hid hch1
    clear hb1 hch1
    go_wp2_with fail
    refine (RBytes_some b d off n cap _ _ w1 Hb1.out hn hc hc2 (by decide) hm2).mono ?_
    rintro e w2 ⟨rfl, hb2, hch2⟩
    have HC2 := Lib.hid (Hch1.out.same hch2)
    have g2 := cell_of_heap hb2 2
    simp at g2
    clear hb2 hch2
    go_wp2_with fail
    go_loop [6, 7] (fun s6 s7 => ∃ k : Nat, k ≤ (way big l).length ∧ s7 = .int .i64 (k : Int) ∧ s6 = .int .u64 (beNum ((way big l).take k))) (fun _ s7 => (way big l).length - (intOf s7).toNat)
    case atStart => exact ⟨0, Nat.zero_le _, rfl, rfl⟩
    case round =>
      obtain ⟨k, hk, rfl, rfl⟩ := hrel
      rw [HWL.out] at hk
      by_cases hlt : k < (way big l).length
      · rw [HWL.out] at hlt
        have HS := Lib.hid (HST.out k hlt)
        have hcell := HCELL.out w2 HC2.out k hlt
        cases big
        all_goals
          simp only [Bool.false_eq_true, if_false, if_true] at hcell
          go_wp2
          go_round
          case rel => exact ⟨k + 1, by rw [HWL.out]; exact hlt, by go_num, by rw [HS.out]⟩
          case measure => have := HWL.out; simp [intOf]; omega
      · rw [HWL.out] at hlt
        have e1 := Nat.le_antisymm hk (Nat.le_of_not_lt hlt)
        subst e1
        clear hlt
        rw [HFULL.out, HW.out]
        go_wp2
        go_ret
        exact ⟨rfl, HC2.out⟩
end Go.Proofs.YtaipelkegemoeaaGreatDoor
/- The document's Get, Put, May (of layer 4). -/
namespace Go.Proofs.YtaipelkegemoeaaGreatDoor
open Go.RowKit
set_option maxRecDepth 100000

theorem Get_any (l : List UInt8) (a : Option Addr) (cap p : Nat) (w : World) (rd : Rd w (.slice a l.length cap) (bytesV l)) (hp : p + 4 ≤ l.length) :
    Calls Tryz.prog 30 #[.slice a l.length cap, .int .i64 p] w fun e w' => e = .returned (.int .i64 (leNum ((l.drop p).take 4) : Nat)) ∧ Chg [] w w' := by
  obtain ⟨a', n, cap', he, hn, h1, h2, h3⟩ := rd
  cases he
  have hne : bytesV l ≠ [] := by
    intro e
    have := congrArg List.length e
    rw [bytesV_length] at this
    have h0 : l.length = 0 := this
    omega
  obtain ⟨b, off, rfl, hcell⟩ := h3 hne
  have hb : b < w.heap.size := by
    have h0 := hcell 0 (by rw [bytesV_length]; omega)
    rw [bytesV_get l 0 (by omega)] at h0
    exact World.block_lt_of_cell? w _ h0
  clear hne
  have HL : Hid (((l.drop p).take 4).length = 4) := Lib.hid (by simp; omega)
  have HC : Hid (∀ W, Chg [] w W → ∀ j, j < 4 → W.cell? ⟨b, off + p + j, none⟩ = some (.int .u8 (((l.drop p).take 4).getD j 0).toNat)) := by
    refine Lib.hid ?_
    intro W hW j hj
    refine hW.cell ?_ (by simp)
    rw [Nat.add_assoc, hcell (p + j) (by rw [bytesV_length]; omega), bytesV_get l _ (by omega)]
    simp [List.getD_eq_getElem?_getD, hj]
  unfold maxLen at h2
  obtain ⟨K, hK⟩ : ∃ K, K = leNum ((l.drop p).take 4) := ⟨_, rfl⟩
  have HK : Hid (numOf false ((l.drop p).take 4) = K) := Lib.hid (hK.symm)
  have hK4 : K < 4294967296 := by rw [hK]; exact leNum4_lt l p
  rw [← hK]
  have hwr : IntKind.i64.wrap (K : Int) = (K : Int) := by rw [IntKind.wrap_i64]; omega
  have hwp : wrap64 ((p : Int) + 4) = (p : Int) + 4 := by unfold wrap64; omega
  clear hcell hn h3 hK hK4
  go_enter Tryz.func30, Tryz.ntmps30
  go_wp2_with fail
  obtain ⟨w1, hw1⟩ : ∃ q, q = w.alloc (.cells #[.slice (some ⟨b, off + p, none⟩) 4 (cap - p), .int .i64 0, .bool false, .bool false] 121) := ⟨_, rfl⟩
  obtain ⟨c, hc⟩ : ∃ q, q = w.heap.size := ⟨_, rfl⟩
  have HB : Hid (w1.heap[c]? = some (.cells #[.slice (some ⟨b, off + p, none⟩) 4 (cap - p), .int .i64 0, .bool false, .bool false] 121 (0, 0))) := Lib.hid (by rw [hw1, hc]; exact heap_alloc_eq _ _)
  have HC1 : Hid (Chg [] w w1) := Lib.hid (by rw [hw1]; exact (Chg.refl _ _).alloc _)
  have HS : Hid (w.heap.size ≤ c) := Lib.hid (Nat.le_of_eq hc.symm)
  rw [← hc] at hb
  rw [← hc, ← hw1]
  clear hc hw1
  refine (RNumber_some c b (off + p) 4 (cap - p) 4 false ((l.drop p).take 4) w1 HB.out (by omega) (by omega) (by omega) (.inl rfl) (by omega) (by omega) HL.out (HC.out w1 HC1.out)).mono ?_
  rintro e w2 ⟨rfl, hch⟩
  rw [HK.out]
  have HC2 := Lib.hid (HC1.out.new hch HS.out)
  clear hch
  go_wp2
  go_ret
  exact ⟨rfl, HC2.out⟩

end Go.Proofs.YtaipelkegemoeaaGreatDoor
/- What is read as commands may be (plain). -/
namespace Go.Proofs.YtaipelkegemoeaaGreatDoor
open Go.RowKit
set_option maxRecDepth 100000

end Go.Proofs.YtaipelkegemoeaaGreatDoor
