/- Lemmas, laid together: part 11 of 41. Conditions: none but each lemma's own. -/
import Derived.Test.YtkomocgodljecaaGreatDoorK10
import Derived.Test.YtkomocgodljecaaGreatDoorK7
import Derived.Test.YtkomocgodljecaaGreatDoorK3
import Derived.Test.YtkomocgodljecaaGreatDoorK9
import Derived.MapKept
import Derived.Test.YtkomocgodljecaaGreatDoorK4
/- clevisref12.Same. -/
namespace Go.Proofs.YtkomocgodljecaaGreatDoor
open Go.RowKit
set_option maxRecDepth 100000

end Go.Proofs.YtkomocgodljecaaGreatDoor
/- Do fixups meet? (plain) -/
namespace Go.Proofs.YtkomocgodljecaaGreatDoor
set_option maxRecDepth 100000

/-- Two that stand side by side, less than 8 bytes apart. -/
def adjF : List Fx → Bool
  | [] => false
  | [_] => false
  | x :: y :: r => decide (y.at_ - x.at_ < 8) || adjF (y :: r)
theorem ord_at {a b : Fx} (h : ordF a b < 0) : a.at_ ≤ b.at_ := by
  unfold ordF th at h
  have hc : cmpI a.at_ b.at_ = -1 ∨ cmpI a.at_ b.at_ = 0 ∨ cmpI a.at_ b.at_ = 1 := cmpI_is.one _ _
  by_cases h0 : cmpI a.at_ b.at_ = 0
  · have := cmpI_eq.1 h0; omega
  · rw [if_neg h0] at h
    unfold cmpI at h
    split at h
    · omega
    · split at h <;> omega
theorem adj_iff : ∀ {l : List Fx}, SS l → (adjF l = true ↔ ∃ a ∈ l, ∃ b ∈ l, ordF a b < 0 ∧ b.at_ - a.at_ < 8)
  | [], _ => by simp [adjF]
  | [x], _ => by
    simp only [adjF, Bool.false_eq_true, false_iff, List.mem_singleton]
    rintro ⟨a, rfl, b, rfl, h, _⟩
    rw [ord_self] at h
    omega
  | x :: y :: r, h => by
    have h' := List.pairwise_cons.1 h
    have ih := adj_iff (l := y :: r) h'.2
    unfold adjF
    rw [Bool.or_eq_true, ih, decide_eq_true_eq]
    constructor
    · rintro (h1 | ⟨a, ha, b, hb, h1, h2⟩)
      · exact ⟨x, List.mem_cons_self .., y, List.mem_cons_of_mem _ (List.mem_cons_self ..), h'.1 y (List.mem_cons_self ..), h1⟩
      · exact ⟨a, List.mem_cons_of_mem _ ha, b, List.mem_cons_of_mem _ hb, h1, h2⟩
    · rintro ⟨a, ha, b, hb, h1, h2⟩
      rcases List.mem_cons.1 ha with e | ha2
      · subst e
        rcases List.mem_cons.1 hb with e | hb2
        · subst e; rw [ord_self] at h1; omega
        · refine .inl ?_
          have hyb : y.at_ ≤ b.at_ := by
            rcases List.mem_cons.1 hb2 with e | hb3
            · rw [e]; exact Int.le_refl _
            · exact ord_at ((List.pairwise_cons.1 h'.2).1 b hb3)
          omega
      · rcases List.mem_cons.1 hb with e | hb2
        · subst e
          have := h'.1 a ha2
          have := ord_anti a b
          omega
        · exact .inr ⟨a, ha2, b, hb2, h1, h2⟩
theorem adj_meet (l : List Fx) : adjF (setF l) = meetF l := by
  have h1 := adj_iff (ss_setF l)
  have h2 : meetF l = true ↔ ∃ a ∈ l, ∃ b ∈ l, ordF a b < 0 ∧ b.at_ - a.at_ < 8 := by
    unfold meetF
    rw [List.any_eq_true]
    constructor
    · rintro ⟨a, ha, h⟩
      rw [List.any_eq_true] at h
      obtain ⟨b, hb, h⟩ := h
      rw [Bool.and_eq_true, decide_eq_true_eq] at h
      obtain ⟨hne, h8⟩ := h
      unfold apart8 at h8
      rw [decide_eq_true_eq] at h8
      have ho := ordF_is.one a b
      have hn : ordF a b ≠ 0 := fun e => hne (ordF_eq.1 e)
      have ha2 := ord_anti a b
      by_cases hlt : ordF a b < 0
      · have := ord_at hlt
        refine ⟨a, ha, b, hb, hlt, ?_⟩
        split at h8 <;> omega
      · have hlt2 : ordF b a < 0 := by omega
        have := ord_at hlt2
        refine ⟨b, hb, a, ha, hlt2, ?_⟩
        split at h8 <;> omega
    · rintro ⟨a, ha, b, hb, h1, h2⟩
      refine ⟨a, ha, ?_⟩
      rw [List.any_eq_true]
      refine ⟨b, hb, ?_⟩
      rw [Bool.and_eq_true, decide_eq_true_eq]
      refine ⟨fun e => by rw [e, ord_self] at h1; omega, ?_⟩
      unfold apart8
      rw [decide_eq_true_eq]
      have := ord_at h1
      split <;> omega
  have h3 : adjF (setF l) = true ↔ meetF l = true := by
    rw [h1, h2]
    constructor
    · rintro ⟨a, ha, b, hb, h⟩; exact ⟨a, mem_setF.1 ha, b, mem_setF.1 hb, h⟩
    · rintro ⟨a, ha, b, hb, h⟩; exact ⟨a, mem_setF.2 ha, b, mem_setF.2 hb, h⟩
  cases e1 : adjF (setF l) <;> cases e2 : meetF l <;> simp_all
end Go.Proofs.YtkomocgodljecaaGreatDoor
/- fixup.Meet. -/
namespace Go.Proofs.YtkomocgodljecaaGreatDoor
open Go.RowKit
set_option maxRecDepth 100000

theorem adj_get : ∀ {l : List Fx}, adjF l = true ↔ ∃ j, j + 1 < l.length ∧ (l.getD (j + 1) .zero).at_ - (l.getD j .zero).at_ < 8
  | [] => by simp [adjF]
  | [x] => by simp [adjF]
  | x :: y :: r => by
    have ih := adj_get (l := y :: r)
    unfold adjF
    rw [Bool.or_eq_true, decide_eq_true_eq, ih]
    constructor
    · rintro (h | ⟨j, h1, h2⟩)
      · exact ⟨0, by simp, h⟩
      · exact ⟨j + 1, by simpa using h1, h2⟩
    · rintro ⟨j, h1, h2⟩
      cases j with
      | zero => exact .inl h2
      | succ j => exact .inr ⟨j, by simpa using h1, h2⟩
set_option maxHeartbeats 4000000 in
theorem FMeet_any (ls : List Fx) (v : Value) (w : World) (rd : FxRd w v ls) (hl : ls.length ≤ 100000) (hr : ∀ f ∈ ls, 0 ≤ f.at_ ∧ f.at_ < 18446744073709551616) :
    Calls Tryz.prog 37 #[v] w fun e w' => e = .returned (.bool (meetF ls)) ∧ Chg [] w w' := by
  rw [← adj_meet]
  obtain ⟨S, hS⟩ : ∃ S, S = setF ls := ⟨_, rfl⟩
  have hSl : S.length ≤ 100000 := by have := setF_len ls; rw [← hS] at this; omega
  have HSS : Hid (SS S) := Lib.hid (by rw [hS]; exact ss_setF _)
  have HRG : Hid (∀ j, j < S.length → 0 ≤ (S.getD j .zero).at_ ∧ (S.getD j .zero).at_ < 18446744073709551616) := by
    refine Lib.hid ?_
    intro j hj
    refine hr _ (mem_setF.1 ?_)
    rw [← hS, List.getD_eq_getElem?_getD, List.getElem?_eq_getElem hj]
    exact List.getElem_mem hj
  have HFS : Hid (Calls Tryz.prog 14 #[v] w fun e w' => ∃ v', e = .returned v' ∧ FxBuf w' w.heap.size v' S ∧ Chg [] w w') := Lib.hid (by rw [hS]; exact FSet_any ls v w rd hl)
  rw [← hS]
  clear hS hr rd hl
  go_enter Tryz.func37, Tryz.ntmps37
  go_wp2_with fail
  refine (HFS.out).mono ?_
  rintro e w1 ⟨v1, rfl, hb, hch⟩
  obtain ⟨a1, n1, c1, rfl, rfl, hc1, hc2, _⟩ := hb.rd
  unfold maxLen at hc2
  have Hb := Lib.hid hb
  have Hch := Lib.hid hch
  clear hb hch
  go_wp2_with fail
  go_loopw [4] (fun s4 wr => ∃ m : Nat, m ≤ S.length ∧ s4 = .int .i64 ((m + 1 : Nat) : Int) ∧ (∀ j, j < m → j + 1 < S.length → ¬ (S.getD (j + 1) .zero).at_ - (S.getD j .zero).at_ < 8) ∧ Chg [] w1 wr) (fun s4 _ => S.length + 1 - (intOf s4).toNat)
  case atStart => exact ⟨0, Nat.zero_le _, rfl, fun j h => absurd h (Nat.not_lt_zero _), Chg.refl _ _⟩
  case round =>
    obtain ⟨m, hm, rfl, hno, hcq⟩ := hrel
    have Hno := Lib.hid hno
    have Hcq := Lib.hid hcq
    clear hno hcq
    by_cases hlt : m + 1 < S.length
    · obtain ⟨g, cap, he, _, _, _, _, _, hcell⟩ := Hb.out.at (by omega)
      cases he
      obtain ⟨p, hp⟩ : ∃ q, q = (S.getD (m + 1) .zero).at_ := ⟨_, rfl⟩
      obtain ⟨q, hq⟩ : ∃ q, q = (S.getD m .zero).at_ := ⟨_, rfl⟩
      have x0 : wr.cell? ⟨g, (m + 1) * 7, none⟩ = some (.int .u64 p) := by rw [hp]; exact Hcq.out.cell (hcell (m + 1) hlt 0 (by decide)) (by simp)
      have y0 : wr.cell? ⟨g, m * 7, none⟩ = some (.int .u64 q) := by rw [hq]; exact Hcq.out.cell (hcell m (by omega) 0 (by decide)) (by simp)
      have hle : q ≤ p := by rw [hp, hq]; exact ord_at (ss_lt HSS.out (Nat.lt_succ_self m) hlt)
      have hw : IntKind.u64.wrap (p - q) = p - q := by
        have h1 := HRG.out (m + 1) hlt
        have h2 := HRG.out m (by omega)
        rw [← hp] at h1
        rw [← hq] at h2
        rw [IntKind.wrap_u64]
        omega
      clear hcell
      by_cases h8 : p - q < 8
      · have d8 : decide (p - q < 8) = true := by simpa using h8
        have HT : Hid (adjF S = true) := Lib.hid (adj_get.2 ⟨m, hlt, by rw [← hp, ← hq]; exact h8⟩)
        clear h8 hle hp hq
        go_wp2_with fail
        go_quiet (fail)
        go_wp2
        go_ret
        exact ⟨by rw [HT.out]; rfl, Hch.out.then (Hcq.out.drewN _)⟩
      · have d8 : decide (p - q < 8) = false := by simpa using h8
        have HN : Hid (¬ (S.getD (m + 1) .zero).at_ - (S.getD m .zero).at_ < 8) := Lib.hid (by rw [← hp, ← hq]; exact h8)
        clear h8 hle hp hq
        go_wp2_with fail
        go_quiet (fail)
        go_wp2
        go_roundw
        case rel =>
          refine ⟨m + 1, by omega, by go_num, fun j h1 h2 => ?_, Hcq.out.drewN _⟩
          by_cases e : j = m
          · subst e; have := HN.out; omega
          · have := Hno.out j (by omega) h2; omega
        case measure => simp [intOf]; omega
    · have HF : Hid (adjF S = false) := by
        refine Lib.hid ?_
        cases e : adjF S with
        | false => rfl
        | true =>
          obtain ⟨j, h1, h2⟩ := adj_get.1 e
          have := Hno.out j (by omega) h1; omega
      go_wp2
      go_ret
      exact ⟨by rw [HF.out]; rfl, Hch.out.then Hcq.out⟩
end Go.Proofs.YtkomocgodljecaaGreatDoor
/- A whole record, read in a region that draws. No program in sight. -/
namespace Go.Proofs.YtkomocgodljecaaGreatDoor
open Go.RowKit
namespace Lay
theorem read_ld {α : Type} {L : Lay α} {P : Program} {T : TypeId} (hT : Ty L P T) {d : Tmp} {s : Operand} {ty : TypeId} {pos : String} {after : Array Edge} {g : Option (Nat × Bool)} {ev : Operand → Value} {y : Nat → Option Bool} {w : World} {b off : Nat} {x : α} (hx : L.In w b off x) (hw : Region.wanted ⟨some d, .load T s, ty, pos, after, g⟩ y = true) (hs : ev s = .pointer (some ⟨b, off, none⟩)) :
    if Region.wanted ⟨some d, .load T s, ty, pos, after, g⟩ y = true then (execOp ev ⟨some d, .load T s, ty, pos, after, g⟩).run P w = .ok (.value (L.val x)) w else L.val x = undef := by
  rw [if_pos hw]
  unfold execOp
  simp only [Instr.loadAt, Instr.sureAddr, Sem.run_bind, Sem.run_pure, hs, Result.andThen_ok, run_load_rec hT hx]
/-- A whole record, loaded under a guard that is met. -/
theorem ldG2 {α : Type} {L : Lay α} {P : Program} {T : TypeId} {ops : Array Oper} {rest : List Oper} {a : Act} {Q : Exit → Act → World → Prop} {w : World} (hT : Ty L P T) {d : Tmp} {s : Operand} {ty : TypeId} {pos : String} {after : Array Edge} {g : Nat × Bool} {b off : Nat} (x : α) (hx : L.In w b off x) (hw : Region.wanted ⟨some d, .load T s, ty, pos, after, some g⟩ (yielded ops a.tmps) = true) (hs : a.eval s = .pointer (some ⟨b, off, none⟩))
    (h : wpList P ops Q rest (a.put (some d) (.agg (L.f x).toArray)) w) : wpList P ops Q (⟨some d, .load T s, ty, pos, after, some g⟩ :: rest) a w := by
  refine wpList_step fun K hK => ?_
  rw [if_pos hw]
  unfold Oper.wp execOp
  simp only [Instr.loadAt, Instr.sureAddr, Sem.run_bind, Sem.run_pure, hs, Result.andThen_ok, run_load_rec hT hx]
  exact hK _ _ h
end Lay
end Go.Proofs.YtkomocgodljecaaGreatDoor
/- Fixups as records of XLay; a record stored at a place; append of a make to nothing; the map of places. -/
namespace Go.Proofs.YtkomocgodljecaaGreatDoor
open Go.RowKit Go.MapKept
set_option maxRecDepth 100000

def fxl : Lay Fx := ⟨7, Fx.cells, Fx.zero, fun _ => rfl, by decide, fun x u hu => by
  simp only [Fx.cells, List.mem_cons, List.not_mem_nil, or_false] at hu
  rcases hu with rfl | rfl | rfl | rfl | rfl | rfl | rfl <;> rfl⟩
theorem Tryz.tFx : Lay.Ty fxl Tryz.prog 53 := Lay.Ty.mk' (by kernel_rfl) (by kernel_rfl)
theorem Tryz.infoFxL : Lay.Info Tryz.prog 31 53 fxl.n 64 := Lay.Info.mk' (z := .agg #[.int .u64 0, .int .i64 0, .int .u64 0, .int .i64 0, .string ⟨#[]⟩, .int .i64 0, .bool false]) (by kernel_rfl) (by kernel_rfl) rfl
theorem fx_toL {w : World} {v : Value} {ls : List Fx} (h : FxRd w v ls) : fxl.Rd w v ls := h
theorem fx_ofL {w : World} {v : Value} {ls : List Fx} (h : fxl.Rd w v ls) : FxRd w v ls := h
abbrev FB (w : World) (base : Nat) (v : Value) (ls : List Fx) : Prop := fxl.Buf 53 w base v ls
theorem fb_of {w : World} {base : Nat} {v : Value} {ls : List Fx} (h : FxBuf w base v ls) : FB w base v ls := h
section
variable {α : Type} {L : Lay α} {P : Program} {T : TypeId} {ops : Array Oper} {rest : List Oper} {a : Act} {Q : Exit → Act → World → Prop} {w : World}
end
end Go.Proofs.YtkomocgodljecaaGreatDoor
/- The reader of binds, a record. -/
namespace Go.Proofs.YtkomocgodljecaaGreatDoor
open Go.RowKit
set_option maxRecDepth 100000

structure Brd where
  c : Option Addr
  m : Img
  kind : Int
  imm : Int
  f : Fx
  is_ : Bool
  typ : Int
  out : SlV
  ended : Bool
def Brd.cells (r : Brd) : List Value := .pointer r.c :: (r.m.cells ++ (.int .i64 r.kind :: .int .u8 r.imm :: (r.f.cells ++ [.bool r.is_, .int .u8 r.typ, .slice r.out.a r.out.n r.out.cap, .bool r.ended])))
def Brd.zero : Brd := ⟨none, Img.zero, 0, 0, Fx.zero, false, 0, ⟨none, 0, 0⟩, false⟩
def brdL : Lay Brd := ⟨38, Brd.cells, Brd.zero, fun _ => rfl, by decide, fun x u hu => by
  simp only [Brd.cells, List.mem_cons, List.mem_append, List.not_mem_nil, or_false] at hu
  rcases hu with rfl | h | rfl | rfl | h | rfl | rfl | rfl | rfl
  · rfl
  · exact imgL.one x.m u h
  · rfl
  · rfl
  · exact fxl.one x.f u h
  · rfl
  · rfl
  · rfl
  · rfl⟩
theorem Brd.set_imm {w : World} {g : Nat} {r : Brd} (h : brdL.Box w g r) (x : Int) : brdL.Box (w.setCell ⟨g, 26, none⟩ (.int .u8 x)) g { r with imm := x } := Lay.Box.set h 26 _ _ rfl
theorem Brd.set_at {w : World} {g : Nat} {r : Brd} (h : brdL.Box w g r) (x : Int) : brdL.Box (w.setCell ⟨g, 27, none⟩ (.int .u64 x)) g { r with f := { r.f with at_ := x } } := Lay.Box.set h 27 _ _ rfl
theorem Brd.set_ord {w : World} {g : Nat} {r : Brd} (h : brdL.Box w g r) (x : Int) : brdL.Box (w.setCell ⟨g, 30, none⟩ (.int .i64 x)) g { r with f := { r.f with ord := x } } := Lay.Box.set h 30 _ _ rfl
theorem Brd.set_sym {w : World} {g : Nat} {r : Brd} (h : brdL.Box w g r) (x : ByteArray) : brdL.Box (w.setCell ⟨g, 31, none⟩ (.string x)) g { r with f := { r.f with sym := x } } := Lay.Box.set h 31 _ _ rfl
theorem Brd.set_add {w : World} {g : Nat} {r : Brd} (h : brdL.Box w g r) (x : Int) : brdL.Box (w.setCell ⟨g, 32, none⟩ (.int .i64 x)) g { r with f := { r.f with add := x } } := Lay.Box.set h 32 _ _ rfl
theorem Brd.set_weak {w : World} {g : Nat} {r : Brd} (h : brdL.Box w g r) (x : Bool) : brdL.Box (w.setCell ⟨g, 33, none⟩ (.bool x)) g { r with f := { r.f with weak := x } } := Lay.Box.set h 33 _ _ rfl
theorem Brd.set_is {w : World} {g : Nat} {r : Brd} (h : brdL.Box w g r) (x : Bool) : brdL.Box (w.setCell ⟨g, 34, none⟩ (.bool x)) g { r with is_ := x } := Lay.Box.set h 34 _ _ rfl
theorem Brd.set_typ {w : World} {g : Nat} {r : Brd} (h : brdL.Box w g r) (x : Int) : brdL.Box (w.setCell ⟨g, 35, none⟩ (.int .u8 x)) g { r with typ := x } := Lay.Box.set h 35 _ _ rfl
theorem Brd.set_out {w : World} {g : Nat} {r : Brd} (h : brdL.Box w g r) (x : SlV) : brdL.Box (w.setCell ⟨g, 36, none⟩ (.slice x.a x.n x.cap)) g { r with out := x } := Lay.Box.set h 36 _ _ rfl
theorem Brd.set_ended {w : World} {g : Nat} {r : Brd} (h : brdL.Box w g r) (x : Bool) : brdL.Box (w.setCell ⟨g, 37, none⟩ (.bool x)) g { r with ended := x } := Lay.Box.set h 37 _ _ rfl
theorem Brd.c_c {w : World} {b : Nat} {r : Brd} (h : brdL.Box w b r) : w.cell? ⟨b, 0, none⟩ = some (.pointer r.c) := by have := h.in 0 (by decide); rw [Nat.zero_add] at this; exact this
theorem Brd.c_kind {w : World} {b : Nat} {r : Brd} (h : brdL.Box w b r) : w.cell? ⟨b, 25, none⟩ = some (.int .i64 r.kind) := by have := h.in 25 (by decide); rw [Nat.zero_add] at this; exact this
theorem Brd.c_imm {w : World} {b : Nat} {r : Brd} (h : brdL.Box w b r) : w.cell? ⟨b, 26, none⟩ = some (.int .u8 r.imm) := by have := h.in 26 (by decide); rw [Nat.zero_add] at this; exact this
theorem Brd.c_at {w : World} {b : Nat} {r : Brd} (h : brdL.Box w b r) : w.cell? ⟨b, 27, none⟩ = some (.int .u64 r.f.at_) := by have := h.in 27 (by decide); rw [Nat.zero_add] at this; exact this
theorem Brd.c_ord {w : World} {b : Nat} {r : Brd} (h : brdL.Box w b r) : w.cell? ⟨b, 30, none⟩ = some (.int .i64 r.f.ord) := by have := h.in 30 (by decide); rw [Nat.zero_add] at this; exact this
theorem Brd.c_sym {w : World} {b : Nat} {r : Brd} (h : brdL.Box w b r) : w.cell? ⟨b, 31, none⟩ = some (.string r.f.sym) := by have := h.in 31 (by decide); rw [Nat.zero_add] at this; exact this
theorem Brd.c_weak {w : World} {b : Nat} {r : Brd} (h : brdL.Box w b r) : w.cell? ⟨b, 33, none⟩ = some (.bool r.f.weak) := by have := h.in 33 (by decide); rw [Nat.zero_add] at this; exact this
theorem Brd.c_is {w : World} {b : Nat} {r : Brd} (h : brdL.Box w b r) : w.cell? ⟨b, 34, none⟩ = some (.bool r.is_) := by have := h.in 34 (by decide); rw [Nat.zero_add] at this; exact this
theorem Brd.c_typ {w : World} {b : Nat} {r : Brd} (h : brdL.Box w b r) : w.cell? ⟨b, 35, none⟩ = some (.int .u8 r.typ) := by have := h.in 35 (by decide); rw [Nat.zero_add] at this; exact this
theorem Brd.c_out {w : World} {b : Nat} {r : Brd} (h : brdL.Box w b r) : w.cell? ⟨b, 36, none⟩ = some (.slice r.out.a r.out.n r.out.cap) := by have := h.in 36 (by decide); rw [Nat.zero_add] at this; exact this
theorem Brd.c_ended {w : World} {b : Nat} {r : Brd} (h : brdL.Box w b r) : w.cell? ⟨b, 37, none⟩ = some (.bool r.ended) := by have := h.in 37 (by decide); rw [Nat.zero_add] at this; exact this
theorem Brd.i_m {w : World} {b : Nat} {r : Brd} (h : brdL.Box w b r) : imgL.In w b 1 r.m := fun c hc => by
  have := h.in (1 + c) (by have : c < 24 := hc; show 1 + c < 38; omega)
  rw [Nat.zero_add] at this
  rw [this]
  have hl : r.m.cells.length = 24 := rfl
  show (.pointer r.c :: (r.m.cells ++ _) : List Value)[1 + c]? = r.m.cells[c]?
  rw [Nat.add_comm 1 c, List.getElem?_cons_succ, List.getElem?_append_left (by rw [hl]; exact hc)]
theorem Brd.i_f {w : World} {b : Nat} {r : Brd} (h : brdL.Box w b r) : fxl.In w b 27 r.f := fun c hc => by
  have hc7 : c < 7 := hc
  have := h.in (27 + c) (by show 27 + c < 38; omega)
  rw [Nat.zero_add] at this
  rw [this]
  match c, hc7 with
  | 0, _ => rfl
  | 1, _ => rfl
  | 2, _ => rfl
  | 3, _ => rfl
  | 4, _ => rfl
  | 5, _ => rfl
  | 6, _ => rfl
end Go.Proofs.YtkomocgodljecaaGreatDoor
/- image.At: the number of an address's segment. -/
namespace Go.Proofs.YtkomocgodljecaaGreatDoor
open Go.RowKit
set_option maxRecDepth 100000

/-- Does an address stand in a segment? -/
def inS (addr : Int) (s : Seg) : Bool := !holeS s && (decide (s.addr ≤ addr) && decide (addr - s.addr < s.size))
def atS (ls : List Seg) (addr : Int) : Option Nat := idx (inS addr) ls
theorem Tryz.tSeg : Lay.Ty segL Tryz.prog 49 := Lay.Ty.mk' (by kernel_rfl) (by kernel_rfl)
theorem at1_any (s : Seg) (hs : 0 ≤ s.addr) (addr : Int) (ha : addr < 18446744073709551616) (p : Nat) (w : World) (hp : w.cell? ⟨p, 0, none⟩ = some (.int .u64 addr)) :
    Calls Tryz.prog 41 #[s.v, .pointer (some ⟨p, 0, none⟩)] w fun e w' => e = .returned (.bool (inS addr s)) ∧ Chg [] w w' := by
  have HH := Lib.hid (hole_any s)
  unfold inS
  generalize holeS s = b at *
  have Hp := Lib.hid hp
  clear hp
  cases b with
  | true =>
    go_enter Tryz.func41, Tryz.ntmps41
    go_wp2_with ((with_reducible refine Lay.bxL (L := segL) 49 s ?_ ?_); exact rfl; intro W1 bs ebs cbs xbs; replace ebs := Lib.hid ebs; replace cbs := Lib.hid cbs; replace xbs := Lib.hid xbs; refine Hid.out ?_)
    refine Lib.hid ?_
    go_wp2_with ((with_reducible refine Lay.ldL Tryz.tSeg s (xbs.out.in) ?_ ?_); exact rfl; refine Hid.out ?_)
    refine Lib.hid ?_
    go_wp2_with fail
    refine (HH.out _).mono ?_
    rintro e w' ⟨rfl, hc⟩
    have Hc := Lib.hid hc
    clear hc
    have p2 := (cbs.out.then Hc.out).cell Hp.out (by simp)
    have x1 := Seg.c_addr (xbs.out.frame Hc.out)
    have x2 := Seg.c_size (xbs.out.frame Hc.out)
    go_wp2
    go_ret
    exact ⟨rfl, cbs.out.then Hc.out⟩
  | false =>
    by_cases h1 : s.addr ≤ addr
    · have d1 : decide (s.addr ≤ addr) = true := by simpa using h1
      have hw : IntKind.u64.wrap (addr - s.addr) = addr - s.addr := by rw [IntKind.wrap_u64]; omega
      go_enter Tryz.func41, Tryz.ntmps41
      go_wp2_with ((with_reducible refine Lay.bxL (L := segL) 49 s ?_ ?_); exact rfl; intro W1 bs ebs cbs xbs; replace ebs := Lib.hid ebs; replace cbs := Lib.hid cbs; replace xbs := Lib.hid xbs; refine Hid.out ?_)
      refine Lib.hid ?_
      go_wp2_with ((with_reducible refine Lay.ldL Tryz.tSeg s (xbs.out.in) ?_ ?_); exact rfl; refine Hid.out ?_)
      refine Lib.hid ?_
      go_wp2_with fail
      refine (HH.out _).mono ?_
      rintro e w' ⟨rfl, hc⟩
      have Hc := Lib.hid hc
      clear hc
      have p2 := (cbs.out.then Hc.out).cell Hp.out (by simp)
      have x1 := Seg.c_addr (xbs.out.frame Hc.out)
      have x2 := Seg.c_size (xbs.out.frame Hc.out)
      go_wp2
      go_ret
      exact ⟨by rw [d1]; rfl, cbs.out.then Hc.out⟩
    · have d1 : decide (s.addr ≤ addr) = false := by simpa using h1
      go_enter Tryz.func41, Tryz.ntmps41
      go_wp2_with ((with_reducible refine Lay.bxL (L := segL) 49 s ?_ ?_); exact rfl; intro W1 bs ebs cbs xbs; replace ebs := Lib.hid ebs; replace cbs := Lib.hid cbs; replace xbs := Lib.hid xbs; refine Hid.out ?_)
      refine Lib.hid ?_
      go_wp2_with ((with_reducible refine Lay.ldL Tryz.tSeg s (xbs.out.in) ?_ ?_); exact rfl; refine Hid.out ?_)
      refine Lib.hid ?_
      go_wp2_with fail
      refine (HH.out _).mono ?_
      rintro e w' ⟨rfl, hc⟩
      have Hc := Lib.hid hc
      clear hc
      have p2 := (cbs.out.then Hc.out).cell Hp.out (by simp)
      have x1 := Seg.c_addr (xbs.out.frame Hc.out)
      have x2 := Seg.c_size (xbs.out.frame Hc.out)
      go_wp2
      go_ret
      exact ⟨by rw [d1]; rfl, cbs.out.then Hc.out⟩
/-- A segment's numbers are of their kinds. -/
def SegB (s : Seg) : Prop := (0 ≤ s.addr ∧ s.addr < 18446744073709551616) ∧ (0 ≤ s.size ∧ s.size < 18446744073709551616) ∧ (0 ≤ s.off ∧ s.off < 18446744073709551616) ∧ (0 ≤ s.fsize ∧ s.fsize < 18446744073709551616)
def SegsB (ls : List Seg) : Prop := ∀ k, k < ls.length → SegB (ls.getD k .zero)
set_option maxHeartbeats 1000000 in
theorem idxAt_any (ls : List Seg) (hls : SegsB ls) (addr : Int) (ha : addr < 18446744073709551616) (p : Nat) (v : Value) (w : World) (rd : segL.Rd w v ls) (hp : w.cell? ⟨p, 0, none⟩ = some (.int .u64 addr)) :
    Calls Tryz.prog 40 #[v, .func (.func 41) #[] #[.pointer (some ⟨p, 0, none⟩)]] w fun e w' => e = .returned (.int .i64 (idxI (atS ls addr))) ∧ Chg [] w w' := by
  obtain ⟨a, cap, rfl, hc1, hc2⟩ := rd.shape
  have HCL : Hid (∀ k, k < ls.length → ∀ W, Chg [] w W → Calls Tryz.prog 41 #[(ls.getD k .zero).v, .pointer (some ⟨p, 0, none⟩)] W fun e w' => e = .returned (.bool (inS addr (ls.getD k .zero))) ∧ Chg [] W w') := by
    refine Lib.hid ?_
    intro k hk W hW
    exact at1_any _ (hls k hk).1.1 addr ha p W (hW.cell hp (by simp))
  unfold atS
  generalize inS addr = P at *
  have HR := Lib.hid rd
  have Hls := Lib.hid hls
  have Ha := Lib.hid ha
  have Hp := Lib.hid hp
  clear rd hls ha hp
  go_enter Tryz.func40, Tryz.ntmps40
  go_wp2_with fail
  go_loopw [8] (fun s8 wr => ∃ k : Nat, k ≤ ls.length ∧ s8 = .int .i64 (k : Int) ∧ (∀ j, j < k → P (ls.getD j .zero) = false) ∧ Chg [] w wr) (fun s8 _ => ls.length - (intOf s8).toNat)
  case atStart => exact ⟨0, Nat.zero_le _, rfl, fun _ h => absurd h (Nat.not_lt_zero _), Chg.refl _ _⟩
  case round =>
    obtain ⟨k, hk, rfl, hno, hch⟩ := hrel
    have Hno := Lib.hid hno
    have Hch := Lib.hid hch
    clear hno hch
    by_cases hlt : k < ls.length
    · obtain ⟨b, off, rfl, hb, hcell⟩ := HR.out.at (by omega)
      have hI : segL.In w b (off + k * 7) (ls.getD k .zero) := hcell k hlt
      have HF := Lib.hid (HCL.out k hlt wr Hch.out)
      obtain ⟨s, hs⟩ : ∃ s, s = ls.getD k .zero := ⟨_, rfl⟩
      rw [← hs] at hI HF
      have hI2 := hI.frame Hch.out
      clear hI hcell hb
      have Hs := Lib.hid hs
      have HI := Lib.hid hI2
      clear hs hI2
      obtain ⟨q, hq⟩ : ∃ q, q = P s := ⟨_, rfl⟩
      rw [← hq] at HF
      go_wp2_with ((with_reducible refine Lay.ldL Tryz.tSeg s (HI.out) ?_ ?_); exact rfl; refine Hid.out ?_)
      refine Lib.hid ?_
      go_wp2_with fail
      refine HF.out.mono ?_
      rintro e w' ⟨rfl, hc⟩
      have HC := Lib.hid (Hch.out.then hc)
      clear hc
      cases q with
      | true =>
        have HE : Hid (idx P ls = some k) := Lib.hid (by rw [Hs.out] at hq; exact idx_some hlt hq.symm (fun j hj => Hno.out j hj))
        clear hq
        go_wp2
        go_ret
        exact ⟨by rw [HE.out]; rfl, HC.out⟩
      | false =>
        have Hq := Lib.hid hq
        clear hq
        go_wp2
        go_roundw
        case rel =>
          refine ⟨k + 1, hlt, by go_num, fun j hj => ?_, HC.out⟩
          by_cases e : j = k
          · subst e; rw [← Hs.out]; exact Hq.out.symm
          · exact Hno.out j (by omega)
        case measure => simp [intOf]; omega
    · have HE : Hid (idx P ls = none) := Lib.hid (idx_none (fun j hj => Hno.out j (by omega)))
      go_wp2
      go_ret
      exact ⟨by rw [HE.out]; rfl, Hch.out⟩
theorem At_img (m : Img) (ls : List Seg) (hls : SegsB ls) (addr : Int) (ha : addr < 18446744073709551616) (w : World) (rd : segL.Rd w m.segs.v ls) :
    Calls Tryz.prog 18 #[imgL.val m, .int .u64 addr] w fun e w' => e = .returned (.int .i64 (idxI (atS ls addr))) ∧ Chg [] w w' := by
  have HX := Lib.hid (fun p v w => idxAt_any ls hls addr ha p v w)
  have hmf : ∀ (fn : Fn) (first cap : Array Value) (w : World), (Instr.makeFunc fn first cap).run Tryz.prog w = .ok (.func fn first cap) w := fun _ _ _ _ => rfl
  have Rd := Lib.hid rd
  have Ha := Lib.hid ha
  have Hls := Lib.hid hls
  clear rd ha hls
  go_enter Tryz.func18, Tryz.ntmps18
  go_wp2_with ((with_reducible refine Lay.bxL (L := imgL) 30 m ?_ ?_); exact rfl; intro W bm ebm cbm xbm; replace ebm := Lib.hid ebm; replace cbm := Lib.hid cbm; replace xbm := Lib.hid xbm; refine Hid.out ?_)
  refine Lib.hid ?_
  have x4 := fun o => Img.c_segs (xbm.out.alloc o)
  go_wp2_with fail
  refine (HX.out W.heap.size _ _ ((Rd.out.frame cbm.out).frame ((Chg.refl _ _).alloc _)) ?_).mono ?_
  · rw [cell_of_heap (heap_alloc_eq _ _)]; rfl
  rintro e w' ⟨rfl, hc⟩
  have Hc := Lib.hid hc
  clear hc
  go_wp2
  go_ret
  exact ⟨rfl, (cbm.out.alloc _).then Hc.out⟩
end Go.Proofs.YtkomocgodljecaaGreatDoor
