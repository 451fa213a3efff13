/- Lemmas, laid together: part 13 of 42. Conditions: none but each lemma's own. -/
import Derived.Test.YtiljokmkiolpgaaGreatDoorJ4
import Derived.Test.YtiljokmkiolpgaaGreatDoorJ11
import Derived.Test.YtiljokmkiolpgaaGreatDoorJ12
import Derived.Test.YtiljokmkiolpgaaGreatDoorJ10
import Derived.Deep.DeepMust
import Derived.Test.YtiljokmkiolpgaaGreatDoorJ1
namespace Go.Proofs.YtiljokmkiolpgaaGreatDoor
open Go.RowKit
set_option maxRecDepth 100000
theorem Tryz.tSta : Lay.Ty staL Tryz.prog 51 := Lay.Ty.mk' (by kernel_rfl) (by kernel_rfl)
theorem Tryz.infoSta : Lay.Info Tryz.prog 52 51 staL.n 48 := Lay.Info.mk' (z := .agg (staL.f staL.d).toArray) (by kernel_rfl) (by kernel_rfl) rfl
theorem Tryz.infoInt : Lay.Info Tryz.prog 46 3 i64L.n 8 := Lay.Info.mk' (z := .int .i64 0) (by kernel_rfl) (by kernel_rfl) rfl
theorem sta_built (x : Sta) (w : World) : (Instr.buildSlice 52 1 #[(0, staL.val x)]).run Tryz.prog w = .ok (.slice (some ⟨w.heap.size, 0, none⟩) 1 1) (w.alloc (.cells (staL.f x).toArray 51)) := by
 show (Instr.buildSlice 52 1 #[(0, .agg #[.int .i64 x.seg, .int .i64 x.page, .int .i64 x.fmt, .slice x.begins.a x.begins.n x.begins.cap])]).run Tryz.prog w = .ok (.slice (some ⟨w.heap.size, 0, none⟩) 1 1) (w.alloc (.cells #[.int .i64 x.seg, .int .i64 x.page, .int .i64 x.fmt, .slice x.begins.a x.begins.n x.begins.cap] 51))
 go_simp
theorem int_built (x : Int) (w : World) : (Instr.buildSlice 46 1 #[(0, .int .i64 x)]).run Tryz.prog w = .ok (.slice (some ⟨w.heap.size, 0, none⟩) 1 1) (w.alloc (.cells (i64L.f x).toArray 3)) := by
 show (Instr.buildSlice 46 1 #[(0, .int .i64 x)]).run Tryz.prog w = .ok (.slice (some ⟨w.heap.size, 0, none⟩) 1 1) (w.alloc (.cells #[.int .i64 x] 3))
 go_simp
theorem bsV {P : Program} {ops : Array Oper} {rest : List Oper} {a : Act} {Q : Exit → Act → World → Prop} {w : World} {T : TypeId} {α : Type} {L : Lay α} {E : TypeId} {d : Tmp} {s : Operand} {ty : TypeId} {pos : String} {after : Array Edge} {g : Option (Nat × Bool)} (x : α) (u : Value)
  (hr : ∀ w, (Instr.buildSlice T 1 #[(0, u)]).run P w = .ok (.slice (some ⟨w.heap.size, 0, none⟩) 1 1) (w.alloc (.cells (L.f x).toArray E)))
  (hw : Region.wanted ⟨some d, .buildSlice T 1 #[(0, s)], ty, pos, after, g⟩ (yielded ops a.tmps) = true) (hs : a.eval s = u)
  (h : ∀ W v, Chg [] w W → L.Rd W v [x] → wpList P ops Q rest (a.put (some d) v) W) : wpList P ops Q (⟨some d, .buildSlice T 1 #[(0, s)], ty, pos, after, g⟩ :: rest) a w := by
 refine wpList_want hw fun K hK => ?_
 have hrw := hr w
 unfold Oper.wp execOp
 simp only [List.map_toArray, List.map_cons, List.map_nil, hs, Sem.run_bind, hrw, Result.andThen_ok, Sem.run_pure]
 exact hK _ _ (h _ _ ((Chg.refl _ _).alloc _) (Lay.Rd.of_heap (heap_alloc_eq _ _) (Lay.vals_single x).symm rfl (show 1 ≤ maxLen by decide)))
structure StaIn (w : World) (base : Nat) (x : Sta) (s : StP) : Prop where
 seg : x.seg = s.seg
 page : x.page = s.page
 fmt : x.fmt = s.fmt
 bg : i64L.Buf 3 w base (.slice x.begins.a x.begins.n x.begins.cap) s.begins
def StP.zero : StP := ⟨0, 0, 0, []⟩
def StsIn (w : World) (base : Nat) (xs : List Sta) (ss : List StP) : Prop := xs.length = ss.length ∧ ∀ i, i < xs.length → StaIn w base (xs.getD i .zero) (ss.getD i .zero)
theorem StaIn.frame {w w' : World} {base : Nat} {x : Sta} {s : StP} (h : StaIn w base x s) {S : List Nat} (k : Chg S w w') (hn : ∀ b, (Value.slice x.begins.a x.begins.n x.begins.cap).ownBlock = some b → b ∉ S) : StaIn w' base x s := ⟨h.seg, h.page, h.fmt, h.bg.frame k hn⟩
theorem StaIn.low {w w' : World} {base : Nat} {x : Sta} {s : StP} (h : StaIn w base x s) {S : List Nat} (k : Chg S w w') (hn : ∀ i ∈ S, i < base) : StaIn w' base x s := h.frame k (fun b hb hm => by have h1 := (h.bg.lt b hb).1; have h2 := hn b hm; omega)
theorem StaIn.pure {w w' : World} {base : Nat} {x : Sta} {s : StP} (h : StaIn w base x s) (k : Chg [] w w') : StaIn w' base x s := h.low k (by simp)
theorem StaIn.mono {w : World} {base base' : Nat} {x : Sta} {s : StP} (h : StaIn w base x s) (hb : base' ≤ base) : StaIn w base' x s := ⟨h.seg, h.page, h.fmt, h.bg.mono hb⟩
theorem StsIn.nil (w : World) (base : Nat) : StsIn w base [] [] := ⟨rfl, fun i h => absurd h (by simp)⟩
theorem StsIn.frame {w w' : World} {base : Nat} {xs : List Sta} {ss : List StP} (h : StsIn w base xs ss) {S : List Nat} (k : Chg S w w') (hn : ∀ i, i < xs.length → ∀ b, (Value.slice (xs.getD i .zero).begins.a (xs.getD i .zero).begins.n (xs.getD i .zero).begins.cap).ownBlock = some b → b ∉ S) : StsIn w' base xs ss :=
 ⟨h.1, fun i hi => (h.2 i hi).frame k (hn i hi)⟩
theorem StsIn.low {w w' : World} {base : Nat} {xs : List Sta} {ss : List StP} (h : StsIn w base xs ss) {S : List Nat} (k : Chg S w w') (hn : ∀ i ∈ S, i < base) : StsIn w' base xs ss := ⟨h.1, fun i hi => (h.2 i hi).low k hn⟩
theorem StsIn.pure {w w' : World} {base : Nat} {xs : List Sta} {ss : List StP} (h : StsIn w base xs ss) (k : Chg [] w w') : StsIn w' base xs ss := h.low k (by simp)
theorem StsIn.mono {w : World} {base base' : Nat} {xs : List Sta} {ss : List StP} (h : StsIn w base xs ss) (hb : base' ≤ base) : StsIn w base' xs ss := ⟨h.1, fun i hi => (h.2 i hi).mono hb⟩
theorem StsIn.apart {α : Type} {L : Lay α} {E : TypeId} {w w' : World} {base c : Nat} {xs : List Sta} {ss : List StP} {v : Value} {ys : List α} (h : StsIn w base xs ss) (hv : L.Buf E w c v ys) (hE : 3 ≠ E) (k : Chg v.ownBlock.toList w w') : StsIn w' base xs ss :=
 h.frame k (fun i hi b hb => rows_ne (h.2 i hi).bg hv hE b hb)
theorem StsIn.snoc {w : World} {base : Nat} {xs : List Sta} {ss : List StP} (h : StsIn w base xs ss) (x : Sta) (s : StP) (h1 : StaIn w base x s) : StsIn w base (xs ++ [x]) (ss ++ [s]) := by
 refine ⟨by simp [h.1], fun i hi => ?_⟩
 rw [getD_snoc, getD_snoc, ← h.1]
 by_cases hl : i < xs.length
 ·rw [if_pos hl, if_pos hl]
  exact h.2 i hl
 ·have : i = xs.length := by simp at hi; omega
  rw [if_neg hl, if_neg hl, if_pos this, if_pos this]
  exact h1
structure StaRd (w : World) (x : Sta) (s : StP) : Prop where
 seg : x.seg = s.seg
 page : x.page = s.page
 fmt : x.fmt = s.fmt
 bg : i64L.Rd w (.slice x.begins.a x.begins.n x.begins.cap) s.begins
theorem StaRd.frame {w w' : World} {x : Sta} {s : StP} (h : StaRd w x s) (k : Chg [] w w') : StaRd w' x s := ⟨h.seg, h.page, h.fmt, h.bg.frame k⟩
theorem StaIn.rd {w : World} {base : Nat} {x : Sta} {s : StP} (h : StaIn w base x s) : StaRd w x s := ⟨h.seg, h.page, h.fmt, h.bg.rd⟩
def StsRd (w : World) (xs : List Sta) (ss : List StP) : Prop := xs.length = ss.length ∧ ∀ i, i < xs.length → StaRd w (xs.getD i .zero) (ss.getD i .zero)
theorem StsRd.frame {w w' : World} {xs : List Sta} {ss : List StP} (h : StsRd w xs ss) (k : Chg [] w w') : StsRd w' xs ss := ⟨h.1, fun i hi => (h.2 i hi).frame k⟩
theorem StsIn.rd {w : World} {base : Nat} {xs : List Sta} {ss : List StP} (h : StsIn w base xs ss) : StsRd w xs ss := ⟨h.1, fun i hi => (h.2 i hi).rd⟩
def ChnRd (w : World) (c : Chn) (p : List StP × List Imp) : Prop := ∃ xs, staL.Rd w (.slice c.starts.a c.starts.n c.starts.cap) xs ∧ StsRd w xs p.1 ∧ impL.Rd w (.slice c.imps.a c.imps.n c.imps.cap) p.2
theorem ChnRd.frame {w w' : World} {c : Chn} {p : List StP × List Imp} (h : ChnRd w c p) (k : Chg [] w w') : ChnRd w' c p := by
 obtain ⟨xs, h1, h2, h3⟩ := h
 exact ⟨xs, h1.frame k, h2.frame k, h3.frame k⟩
def ChnOwn (w : World) (base : Nat) (c : Chn) (p : List StP × List Imp) : Prop := ∃ xs, (staL.Rd w (.slice c.starts.a c.starts.n c.starts.cap) xs ∧ StsRd w xs p.1 ∧ impL.Rd w (.slice c.imps.a c.imps.n c.imps.cap) p.2) ∧ (∀ j, (Value.slice c.starts.a c.starts.n c.starts.cap).ownBlock = some j → base ≤ j) ∧
 (∀ i, i < xs.length → ∀ j, (Value.slice (xs.getD i .zero).begins.a (xs.getD i .zero).begins.n (xs.getD i .zero).begins.cap).ownBlock = some j → base ≤ j) ∧ ∀ j, (Value.slice c.imps.a c.imps.n c.imps.cap).ownBlock = some j → base ≤ j
theorem ChnOwn.rd {w : World} {base : Nat} {c : Chn} {p : List StP × List Imp} (h : ChnOwn w base c p) : ChnRd w c p := by
 obtain ⟨xs, h1, _⟩ := h
 exact ⟨xs, h1⟩
theorem ChnOwn.high {w w' : World} {base : Nat} {c : Chn} {p : List StP × List Imp} (h : ChnOwn w base c p) {S : List Nat} (k : Chg S w w') (hS : ∀ i ∈ S, i < base) : ChnOwn w' base c p := by
 obtain ⟨xs, ⟨h1, h2, h3⟩, h4, h5, h6⟩ := h
 refine ⟨xs, ⟨h1.frameS k fun j hj hm => absurd (h4 j hj) (Nat.not_le.2 (hS j hm)), ⟨h2.1, fun i hi => ⟨(h2.2 i hi).seg, (h2.2 i hi).page, (h2.2 i hi).fmt, (h2.2 i hi).bg.frameS k fun j hj hm => absurd (h5 i hi j hj) (Nat.not_le.2 (hS j hm))⟩⟩, h3.frameS k fun j hj hm => absurd (h6 j hj) (Nat.not_le.2 (hS j hm))⟩, h4, h5, h6⟩
theorem pagesC_b {size page : Int} (h0 : 0 ≤ size) (h1 : size ≤ 140737488355328) (hp : page = 4096 ∨ page = 16384) : 0 ≤ pagesC size page ∧ pagesC size page ≤ 34359738368 := by
 unfold pagesC
 rcases hp with rfl | rfl <;> omega
set_option maxHeartbeats 1000000 in
theorem pages_any (s : Seg) (h0 : 0 ≤ s.size) (h1 : s.size ≤ 140737488355328) (n : Int) (hn : n = 4096 ∨ n = 16384) (w : World) :
  Calls Tryz.prog 106 #[segL.val s, .int .i64 n] w fun e w' => e = .returned (.int .i64 (pagesC s.size n)) ∧ Chg [] w w' := by
 have hb := pagesC_b h0 h1 hn
 obtain ⟨R, hR⟩ : ∃ R, R = pagesC s.size n := ⟨_, rfl⟩
 rw [← hR] at hb ⊢
 unfold pagesC at hR
 rcases hn with rfl | rfl
 ·have Hb := hY hb
  clear hb
  go_enter Tryz.func106, Tryz.ntmps106
  go_wp2_with ((with_reducible refine Lay.bxQ (L := segL) 73 s ?_ ?_); exact rfl)
  refine hY fun W1 bs ebs cbs xbs => ?_
  have x1 := Seg.c_size xbs.out
  obtain ⟨z, hz⟩ : ∃ z, z = s.size := ⟨_, rfl⟩
  rw [← hz] at x1 h0 h1 hR
  have w1 : IntKind.u64.wrap (z + 4096) = z + 4096 := by rw [IntKind.wrap_u64]; omega
  have w2 : IntKind.u64.wrap (z + 4096 - 1) = z + 4096 - 1 := by rw [IntKind.wrap_u64]; omega
  have W3 : Hid (wrap64 (IntKind.u64.wrap ((z + 4096 - 1).tdiv 4096)) = R) := by
   refine hY ?_
   rw [Int.tdiv_eq_ediv_of_nonneg (by omega), IntKind.wrap_u64]
   unfold wrap64
   omega
  have H0 := hY h0
  have H1 := hY h1
  have Hz := hY hz
  have HR := hY hR
  clear h0 h1 hz hR
  go_wp2
  go_ret
  exact ⟨congrArg (fun x => Ending.returned (Value.int .i64 x)) W3.out, cbs.out⟩
 ·have Hb := hY hb
  clear hb
  go_enter Tryz.func106, Tryz.ntmps106
  go_wp2_with ((with_reducible refine Lay.bxQ (L := segL) 73 s ?_ ?_); exact rfl)
  refine hY fun W1 bs ebs cbs xbs => ?_
  have x1 := Seg.c_size xbs.out
  obtain ⟨z, hz⟩ : ∃ z, z = s.size := ⟨_, rfl⟩
  rw [← hz] at x1 h0 h1 hR
  have w1 : IntKind.u64.wrap (z + 16384) = z + 16384 := by rw [IntKind.wrap_u64]; omega
  have w2 : IntKind.u64.wrap (z + 16384 - 1) = z + 16384 - 1 := by rw [IntKind.wrap_u64]; omega
  have W3 : Hid (wrap64 (IntKind.u64.wrap ((z + 16384 - 1).tdiv 16384)) = R) := by
   refine hY ?_
   rw [Int.tdiv_eq_ediv_of_nonneg (by omega), IntKind.wrap_u64]
   unfold wrap64
   omega
  have H0 := hY h0
  have H1 := hY h1
  have Hz := hY hz
  have HR := hY hR
  clear h0 h1 hz hR
  go_wp2
  go_ret
  exact ⟨congrArg (fun x => Ending.returned (Value.int .i64 x)) W3.out, cbs.out⟩
set_option maxHeartbeats 1000000 in
theorem rpages_any (s : Seg) (h0 : 0 ≤ s.size) (h1 : s.size ≤ 140737488355328) (n : Int) (hn : n = 4096 ∨ n = 16384) (w : World) :
  Calls Tryz.prog 67 #[segL.val s, .int .i64 n] w fun e w' => e = .returned (.int .u64 (pagesC s.size n)) ∧ Chg [] w w' := by
 have hb := pagesC_b h0 h1 hn
 obtain ⟨R, hR⟩ : ∃ R, R = pagesC s.size n := ⟨_, rfl⟩
 rw [← hR] at hb ⊢
 unfold pagesC at hR
 rcases hn with rfl | rfl
 ·have Hb := hY hb
  clear hb
  go_enter Tryz.func67, Tryz.ntmps67
  go_wp2_with ((with_reducible refine Lay.bxQ (L := segL) 73 s ?_ ?_); exact rfl)
  refine hY fun W1 bs ebs cbs xbs => ?_
  have x1 := Seg.c_size xbs.out
  obtain ⟨z, hz⟩ : ∃ z, z = s.size := ⟨_, rfl⟩
  rw [← hz] at x1 h0 h1 hR
  have w1 : IntKind.u64.wrap (z.tdiv 4096) = z / 4096 := by rw [Int.tdiv_eq_ediv_of_nonneg (by omega), IntKind.wrap_u64]; omega
  have w2 : IntKind.u64.wrap (z.tmod 4096) = z % 4096 := by rw [Int.tmod_eq_emod_of_nonneg (by omega), IntKind.wrap_u64]; omega
  have w2' : z.tmod 4096 = z % 4096 := Int.tmod_eq_emod_of_nonneg (by omega)
  have w3 : IntKind.u64.wrap (z / 4096 + 1) = z / 4096 + 1 := by rw [IntKind.wrap_u64]; omega
  by_cases hr : z % 4096 = 0
  ·have e1 : (z % 4096 != 0) = false := by rw [hr]; rfl
   have HF : Hid (z / 4096 = R) := hY (by rw [hR]; omega)
   have H0 := hY h0
   have H1 := hY h1
   have Hz := hY hz
   have HR := hY hR
   have Hr := hY hr
   clear h0 h1 hz hR hr
   go_wp2
   go_ret
   exact ⟨congrArg (fun x => Ending.returned (Value.int .u64 x)) HF.out, cbs.out⟩
  ·have e1 : (z % 4096 != 0) = true := by rw [bne_iff_ne]; exact hr
   have HF : Hid (z / 4096 + 1 = R) := hY (by rw [hR]; omega)
   have H0 := hY h0
   have H1 := hY h1
   have Hz := hY hz
   have HR := hY hR
   have Hr := hY hr
   clear h0 h1 hz hR hr
   go_wp2
   go_ret
   exact ⟨congrArg (fun x => Ending.returned (Value.int .u64 x)) HF.out, cbs.out⟩
 ·have Hb := hY hb
  clear hb
  go_enter Tryz.func67, Tryz.ntmps67
  go_wp2_with ((with_reducible refine Lay.bxQ (L := segL) 73 s ?_ ?_); exact rfl)
  refine hY fun W1 bs ebs cbs xbs => ?_
  have x1 := Seg.c_size xbs.out
  obtain ⟨z, hz⟩ : ∃ z, z = s.size := ⟨_, rfl⟩
  rw [← hz] at x1 h0 h1 hR
  have w1 : IntKind.u64.wrap (z.tdiv 16384) = z / 16384 := by rw [Int.tdiv_eq_ediv_of_nonneg (by omega), IntKind.wrap_u64]; omega
  have w2 : IntKind.u64.wrap (z.tmod 16384) = z % 16384 := by rw [Int.tmod_eq_emod_of_nonneg (by omega), IntKind.wrap_u64]; omega
  have w2' : z.tmod 16384 = z % 16384 := Int.tmod_eq_emod_of_nonneg (by omega)
  have w3 : IntKind.u64.wrap (z / 16384 + 1) = z / 16384 + 1 := by rw [IntKind.wrap_u64]; omega
  by_cases hr : z % 16384 = 0
  ·have e1 : (z % 16384 != 0) = false := by rw [hr]; rfl
   have HF : Hid (z / 16384 = R) := hY (by rw [hR]; omega)
   have H0 := hY h0
   have H1 := hY h1
   have Hz := hY hz
   have HR := hY hR
   have Hr := hY hr
   clear h0 h1 hz hR hr
   go_wp2
   go_ret
   exact ⟨congrArg (fun x => Ending.returned (Value.int .u64 x)) HF.out, cbs.out⟩
  ·have e1 : (z % 16384 != 0) = true := by rw [bne_iff_ne]; exact hr
   have HF : Hid (z / 16384 + 1 = R) := hY (by rw [hR]; omega)
   have H0 := hY h0
   have H1 := hY h1
   have Hz := hY hz
   have HR := hY hR
   have Hr := hY hr
   clear h0 h1 hz hR hr
   go_wp2
   go_ret
   exact ⟨congrArg (fun x => Ending.returned (Value.int .u64 x)) HF.out, cbs.out⟩
theorem strideF_pos {n : Int} (h : 0 < strideF n) : strideF n = 4 ∨ strideF n = 8 := by
 unfold strideF at *
 (repeat' split) <;> first | omega | (exfalso; simp_all)
set_option maxHeartbeats 1000000 in
theorem begins_any (k : Nat) (x : Sta) (hs : 0 < strideF x.fmt) (w : World) :
  Calls Tryz.prog 107 #[.int .i64 k, staL.val x] w fun e w' => e = .returned (.bool (decide ((k : Int) < x.page ∧ (k : Int) % strideF x.fmt = 0))) ∧ Chg [] w w' := by
 have hs2 := strideF_pos hs
 have hst := fun W => stride_any x.fmt W
 obtain ⟨S, hS⟩ : ∃ S, S = strideF x.fmt := ⟨_, rfl⟩
 rw [← hS] at hs hs2 hst ⊢
 obtain ⟨P, hP⟩ : ∃ P, P = x.page := ⟨_, rfl⟩
 have hm : (k : Int).tmod S = (k : Int) % S := Int.tmod_eq_emod_of_nonneg (by omega)
 have hne : ¬ S = 0 := by omega
 by_cases h1 : (k : Int) < P
 ·have d1 : decide ((k : Int) < P) = true := decide_eq_true h1
  have HF : Hid (((k : Int) % S == 0) = decide ((k : Int) < x.page ∧ (k : Int) % S = 0)) := by
   refine hY ?_
   rw [← hP, Bool.eq_iff_iff, beq_iff_eq, decide_eq_true_iff]
   exact ⟨fun h => ⟨h1, h⟩, fun h => h.2⟩
  have Hst := hY hst
  have HS := hY hS
  have Hs := hY hs
  have Hs2 := hY hs2
  have H1 := hY h1
  clear hst hS hs hs2 h1
  go_enter Tryz.func107, Tryz.ntmps107
  go_wp2_with ((with_reducible refine Lay.bxQ (L := staL) 51 x ?_ ?_); exact rfl)
  refine hY fun W1 bs ebs cbs xbs => ?_
  have x1 := Sta.c_page xbs.out
  have x2 := Sta.c_fmt xbs.out
  rw [← hP] at x1
  have HP := hY hP
  clear hP
  go_wp2_with fail
  refine (Hst.out _).mono ?_
  rintro e W2 ⟨rfl, hc⟩
  have C2 := hY (cbs.out.then hc)
  clear hc
  go_wp2
  go_ret
  exact ⟨congrArg (fun x => Ending.returned (Value.bool x)) HF.out, C2.out⟩
 ·have d1 : decide ((k : Int) < P) = false := decide_eq_false h1
  have HF : Hid (false = decide ((k : Int) < x.page ∧ (k : Int) % S = 0)) := by
   refine hY ?_
   rw [← hP, eq_comm, decide_eq_false_iff_not]
   exact fun h => h1 h.1
  have Hst := hY hst
  have HS := hY hS
  have Hs := hY hs
  have Hs2 := hY hs2
  have H1 := hY h1
  clear hst hS hs hs2 h1
  go_enter Tryz.func107, Tryz.ntmps107
  go_wp2_with ((with_reducible refine Lay.bxQ (L := staL) 51 x ?_ ?_); exact rfl)
  refine hY fun W1 bs ebs cbs xbs => ?_
  have x1 := Sta.c_page xbs.out
  rw [← hP] at x1
  have HP := hY hP
  clear hP
  go_wp2
  go_ret
  exact ⟨congrArg (fun x => Ending.returned (Value.bool x)) HF.out, cbs.out⟩
theorem old_next (low : Nat) (ab : Bool) (k n : Nat) : 0 ≤ (oldS low ab k n).next ∧ (oldS low ab k n).next < 4096 := by
 have h := bt_lt n 51 12
 have h2 : (2 : Nat) ^ 12 = 4096 := by decide
 unfold oldS
 split <;> simp only <;> omega
theorem young_next (low : Nat) (ab : Bool) (k n : Nat) : 0 ≤ (youngS low ab k n).next ∧ (youngS low ab k n).next < 4096 := by
 have h := bt_lt n 51 11
 have h2 : (2 : Nat) ^ 11 = 2048 := by decide
 unfold youngS
 split
 ·simp only; omega
 ·split <;> simp only <;> omega
theorem linkN_b (low : Nat) (fm : Int) (n : Nat) (l : List Imp) : 0 ≤ linkN low fm n l ∧ linkN low fm n l < 4096 := by
 unfold linkN
 split
 ·omega
 ·rename_i s hs
  have hb : 0 ≤ s.next ∧ s.next < 4096 := by
   unfold linkS at hs
   split at hs
   ·cases hs; exact young_next _ _ _ _
   ·split at hs
    ·cases hs; exact old_next _ _ _ _
    ·split at hs
     ·cases hs; exact old_next _ _ _ _
     ·split at hs
      ·cases hs; exact young_next _ _ _ _
      ·cases hs
  split
  ·exact hb
  ·omega
theorem strideF_b (fm : Int) : 0 ≤ strideF fm ∧ strideF fm ≤ 8 := by
 unfold strideF
 (repeat' split) <;> omega
theorem step_b (low : Nat) (fm : Int) (n : Nat) (l : List Imp) : 0 ≤ linkN low fm n l * strideF fm ∧ linkN low fm n l * strideF fm ≤ 32760 := by
 have h1 := linkN_b low fm n l
 have h2 := strideF_b fm
 refine ⟨Int.mul_nonneg h1.1 h2.1, ?_⟩
 exact Int.le_trans (Int.mul_le_mul (show linkN low fm n l ≤ 4095 by omega) h2.2 h2.1 (by decide)) (by decide)
def FolP (w : World) (S : List Nat) (base : Nat) (r : ChR (List Fx)) (e : Ending) (w' : World) : Prop :=
 Chg S w w' ∧ match r with
 | .ok a => ∃ sl : SlV, e = .returned (.tuple #[.slice sl.a sl.n sl.cap, .int .i64 0]) ∧ FB w' base (.slice sl.a sl.n sl.cap) a ∧ (∀ b, (Value.slice sl.a sl.n sl.cap).ownBlock = some b → b ∈ S ∨ w.heap.size ≤ b) ∧ a.length ≤ 20000
 | .bad n => e = .returned (.tuple #[.slice none 0 0, .int .i64 n])
theorem fx_built (x : Fx) (w : World) : (Instr.buildSlice 35 1 #[(0, fxl.val x)]).run Tryz.prog w = .ok (.slice (some ⟨w.heap.size, 0, none⟩) 1 1) (w.alloc (.cells (fxl.f x).toArray 44)) := by
 show (Instr.buildSlice 35 1 #[(0, .agg #[.int .u64 x.at_, .int .i64 x.kind, .int .u64 x.tgt, .int .i64 x.ord, .string x.sym, .int .i64 x.add, .bool x.weak])]).run Tryz.prog w = .ok (.slice (some ⟨w.heap.size, 0, none⟩) 1 1) (w.alloc (.cells #[.int .u64 x.at_, .int .i64 x.kind, .int .u64 x.tgt, .int .i64 x.ord, .string x.sym, .int .i64 x.add, .bool x.weak] 44))
 go_simp
end Go.Proofs.YtiljokmkiolpgaaGreatDoor
