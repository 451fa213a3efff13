/- clevislaw04.CommandMany. -/
import Derived.Test.YtchkombikjcokaaDoorCMakes
import Derived.Test.YtchkombikjcokaaDoorROne
namespace Go.Proofs.YtchkombikjcokaaDoor
open Go.RowKit
set_option maxRecDepth 100000

set_option maxHeartbeats 4000000 in
theorem CommandMany_walk (w : World) (hg : Env w) (sub kind fl : Int) (_ : (Lit.int .i64 sub).wf = true) (_ : (Lit.int .i64 kind).wf = true) (hfw : (Lit.int .u32 fl).wf = true) (cmd : Int) (hcw : (Lit.int .u32 cmd).wf = true) (many : Int) (_ : (Lit.int .i64 many).wf = true) :
    Calls Tryd.prog 9 #[.agg #[.int .i64 sub, .int .i64 kind, .int .u32 fl], .int .u32 cmd, .int .i64 many] w fun e w' => e = .returned (.bool true) ∧ Chg [] w w' := by
  obtain ⟨F, rfl, hF⟩ := nat_u32 fl hfw
  obtain ⟨C, rfl, hC⟩ := nat_u32 cmd hcw
  clear hfw hcw
  have HG := Lib.hid hg
  clear hg
  by_cases hn0 : many < 0
  · have d1 : decide (many < 0) = true := by simpa using hn0
    clear hn0
    go_enter Tryd.func9, Tryd.ntmps9
    go_wp2_with fail
    refine (known_cmd _ (HG.out.frame (((Chg.refl [] w).alloc _)) (by simp))).mono ?_
    rintro e wk ⟨rfl, hch⟩
    have HK := Lib.hid ((((Chg.refl [] w).alloc _)).then hch)
    clear hch
    go_wp2
    go_ret
    exact ⟨rfl, HK.out⟩
  obtain ⟨N, rfl⟩ : ∃ N : Nat, many = N := ⟨many.toNat, by omega⟩
  have d1 : decide ((N : Int) < 0) = false := by simp
  clear hn0
  by_cases hn3 : 300 < N
  · have d2 : decide ((300 : Int) < (N : Int)) = true := by simp; omega
    clear hn3
    go_enter Tryd.func9, Tryd.ntmps9
    go_wp2_with fail
    refine (known_cmd _ (HG.out.frame (((Chg.refl [] w).alloc _)) (by simp))).mono ?_
    rintro e wk ⟨rfl, hch⟩
    have HK := Lib.hid ((((Chg.refl [] w).alloc _)).then hch)
    clear hch
    go_wp2
    go_ret
    exact ⟨rfl, HK.out⟩
  have d2 : decide ((300 : Int) < (N : Int)) = false := by simp; omega
  have HO := Lib.hid (fun w => ROne_nil C hC w)
  go_enter Tryd.func9, Tryd.ntmps9
  go_wp2_with fail
  obtain ⟨w1, hw1⟩ : ∃ x, x = w.alloc (.cells #[.int .i64 sub, .int .i64 kind, .int .u32 F] 34) := ⟨_, rfl⟩
  obtain ⟨r, hr⟩ : ∃ x, x = w.heap.size := ⟨_, rfl⟩
  have B1 : Hid (w1.heap[r]? = some (.cells #[.int .i64 sub, .int .i64 kind, .int .u32 F] 34 (0, 0))) := Lib.hid (by rw [hw1, hr]; exact heap_alloc_eq _ _)
  have C1 : Hid (Chg [] w w1) := Lib.hid (by rw [hw1]; exact (Chg.refl _ _).alloc _)
  rw [← hw1]
  try rw [← hr]
  clear hw1 hr
  refine (HO.out w1).mono ?_
  rintro e w2 ⟨aL, cL, rfl, hrd, hch⟩
  have RL := Lib.hid (hrd)
  have C2 := Lib.hid (C1.out.then hch)
  have B2 := Lib.hid (hch.heap B1.out (by simp))
  clear hrd hch B1
  obtain ⟨L, hL⟩ : ∃ x, x = le4 C ++ le4 8 := ⟨_, rfl⟩
  rw [← hL] at RL
  have hl8 : L.length = 8 := by rw [hL]; rfl
  clear hL
  go_wp2_with fail
  obtain ⟨w3, hw3⟩ : ∃ x, x = w2.alloc (.cells #[.int .u32 C, .slice aL 8 cL] 26) := ⟨_, rfl⟩
  obtain ⟨q, hq⟩ : ∃ x, x = w2.heap.size := ⟨_, rfl⟩
  have B3 : Hid (w3.heap[q]? = some (.cells #[.int .u32 C, .slice aL 8 cL] 26 (0, 0))) := Lib.hid (by rw [hw3, hq]; exact heap_alloc_eq _ _)
  have D3 : Hid (Chg [] w2 w3) := Lib.hid (by rw [hw3]; exact (Chg.refl _ _).alloc _)
  rw [← hw3, ← hq]
  clear hw3 hq
  go_loopw [8, 9] (fun s8 s9 wr => ∃ k : Nat, k ≤ N ∧ s9 = .int .i64 (k : Int) ∧ wr.ownsRow w3.heap.size 26 2 s8 (List.replicate k (((C, L) : Cmd), Value.slice aL 8 cL)).length (cmdV (List.replicate k (((C, L) : Cmd), Value.slice aL 8 cL))) ∧ Chg [] w3 wr) (fun _ s9 _ => N - (intOf s9).toNat)
  case atStart => exact ⟨0, Nat.zero_le _, rfl, (OutC.nil _ _).own, Chg.refl _ _⟩
  case round =>
    obtain ⟨k, hk, rfl, hown, hch⟩ := hrel
    have Hown := Lib.hid hown
    have Hch := Lib.hid hch
    clear hown hch
    by_cases hlt : k < N
    · have b3 := Hch.out.heap B3.out (by simp)
      have x0 := cell_of_heap b3 0
      have x1 := cell_of_heap b3 1
      simp at x0 x1
      clear b3
      have HQ : Hid ((wr.alloc (.cells #[.int .u32 C, .slice aL 8 cL] 26)).heap[wr.heap.size]? = some (.cells #[.int .u32 C, .slice aL 8 cL] 26 (0, 0))) := Lib.hid (heap_alloc_eq _ _)
      have CQ : Hid (Chg [] w3 (wr.alloc (.cells #[.int .u32 C, .slice aL 8 cL] 26))) := Lib.hid (Hch.out.alloc _)
      have HOQ := Lib.hid (owned_frame Hown.out ((Chg.refl [] wr).alloc (.cells #[.int .u32 C, .slice aL 8 cL] 26)) (fun _ _ hm => by cases hm))
      go_wp2_with (at_builtin; refine app_cmd rfl _ _ rfl w3.heap.size u8 (List.replicate k (((C, L) : Cmd), Value.slice aL 8 cL)) rfl HOQ.out wr.heap.size C aL 8 cL rfl HQ.out (by rw [List.length_replicate]; omega) CQ.out.size ?_; intro v' w' hov hgv; refine Hid.out ?_)
      refine Lib.hid ?_
      have HOV : Hid (w'.ownsRow w3.heap.size 26 2 v' (List.replicate (k + 1) (((C, L) : Cmd), Value.slice aL 8 cL)).length (cmdV (List.replicate (k + 1) (((C, L) : Cmd), Value.slice aL 8 cL)))) := by
        refine Lib.hid ?_
        rw [List.replicate_succ', cmdV_snoc, List.length_append]
        exact hov
      have HVA := Lib.hid (fun b hb => (World.ownsRow.lt HOQ.out b hb).1)
      have DV : Hid (Chg [] w3 w') := Lib.hid (CQ.out.trans (Chg.of_grown hgv) (fun i hm hw => by have := HVA.out i (by simpa using hm); omega))
      clear hov hgv x0 x1 HOQ HVA HQ CQ
      go_wp2
      go_roundw
      case rel => exact ⟨k + 1, hlt, by go_num, HOV.out, DV.out⟩
      case measure => simp [intOf]; omega
    · obtain rfl : k = N := by omega
      have b2 := (D3.out.then Hch.out).heap B2.out (by simp)
      have x0 := cell_of_heap b2 0
      have x1 := cell_of_heap b2 1
      have x2 := cell_of_heap b2 2
      simp at x0 x1 x2
      clear b2
      have RDV : Hid (CmdRd wr u8 (List.replicate k ((C, L) : Cmd))) := by
        refine Lib.hid ?_
        have := rd_of_own Hown.out (fun p hp => by
          obtain ⟨_, rfl⟩ := List.mem_replicate.1 hp
          refine ⟨aL, cL, by show Value.slice aL 8 cL = Value.slice aL L.length cL; rw [hl8], ?_⟩
          exact RL.out.frame (D3.out.then Hch.out) (fun _ _ hm => by cases hm))
        rw [List.map_replicate] at this
        exact this
      have CW := Lib.hid (C2.out.then (D3.out.then Hch.out))
      obtain ⟨CS, hCS⟩ : ∃ x, x = List.replicate k ((C, L) : Cmd) := ⟨_, rfl⟩
      rw [← hCS] at RDV
      have hln : CS.length = k := by rw [hCS, List.length_replicate]
      clear hCS
      obtain ⟨aV, nV, cV, rfl, hnV, _⟩ := id RDV.out
      subst hnV
      have HC := Lib.hid (CMakes_any wr (HG.out.frame CW.out (by simp)) sub kind F hF CS aV cV RDV.out)
      have Hln := Lib.hid hln
      clear hln
      go_wp2_with fail
      refine HC.out.mono ?_
      rintro e w5 ⟨rfl, hch⟩
      have C5 := Lib.hid (CW.out.then hch)
      clear hch
      go_wp2
      go_ret
      exact ⟨rfl, C5.out⟩
end Go.Proofs.YtchkombikjcokaaDoor
