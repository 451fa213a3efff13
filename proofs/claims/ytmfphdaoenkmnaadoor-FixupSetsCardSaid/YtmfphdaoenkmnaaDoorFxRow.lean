/- Rows of fixups: read, made, appended to; two fixups compared. -/
import Derived.Test.YtmfphdaoenkmnaaDoorFxWalk
import Derived.Test.YtmfphdaoenkmnaaDoorFxSet
namespace Go.Proofs.YtmfphdaoenkmnaaDoor
open Go.RowKit
set_option maxRecDepth 100000

def Fx.zero : Fx := ⟨0, 0, 0, 0, ⟨#[]⟩, 0, false⟩
def Fx.cells (f : Fx) : List Value := [.int .u64 f.at_, .int .i64 f.kind, .int .u64 f.tgt, .int .i64 f.ord, .string f.sym, .int .i64 f.add, .bool f.weak]
/-- The slice value v of fixups reads as ls. -/
def FxRd (w : World) (v : Value) (ls : List Fx) : Prop :=
  ∃ a n cap, v = .slice a n cap ∧ n = ls.length ∧ n ≤ cap ∧ cap ≤ maxLen ∧
    (ls ≠ [] → ∃ b off, a = some ⟨b, off, none⟩ ∧ b < w.heap.size ∧ ∀ j, j < ls.length → ∀ c, c < 7 → w.cell? ⟨b, off + j * 7 + c, none⟩ = (ls.getD j .zero).cells[c]?)
theorem FxRd.frame {w w' : World} {v : Value} {ls : List Fx} (h : FxRd w v ls) (k : Chg [] w w') : FxRd w' v ls := by
  obtain ⟨a, n, cap, rfl, hn, hc, hm, hx⟩ := h
  refine ⟨a, n, cap, rfl, hn, hc, hm, fun hne => ?_⟩
  obtain ⟨b, off, rfl, hb, hcell⟩ := hx hne
  refine ⟨b, off, rfl, Nat.lt_of_lt_of_le hb k.size, fun j hj c hc => ?_⟩
  have h1 := hcell j hj c hc
  cases hv : (ls.getD j .zero).cells[c]? with
  | none => have : c < (ls.getD j .zero).cells.length := hc; rw [List.getElem?_eq_getElem this] at hv; cases hv
  | some u => rw [hv] at h1; exact k.cell h1 (by simp)
theorem FxRd.at {w : World} {b off j : Nat} {f : Fx} (h : ∀ c, c < 7 → w.cell? ⟨b, off + j * 7 + c, none⟩ = f.cells[c]?) :
    w.cell? ⟨b, off + j * 7, none⟩ = some (.int .u64 f.at_) ∧ w.cell? ⟨b, off + j * 7 + 1, none⟩ = some (.int .i64 f.kind) ∧ w.cell? ⟨b, off + j * 7 + 2, none⟩ = some (.int .u64 f.tgt) ∧ w.cell? ⟨b, off + j * 7 + 3, none⟩ = some (.int .i64 f.ord) ∧ w.cell? ⟨b, off + j * 7 + 4, none⟩ = some (.string f.sym) ∧ w.cell? ⟨b, off + j * 7 + 5, none⟩ = some (.int .i64 f.add) ∧ w.cell? ⟨b, off + j * 7 + 6, none⟩ = some (.bool f.weak) :=
  ⟨h 0 (by decide), h 1 (by decide), h 2 (by decide), h 3 (by decide), h 4 (by decide), h 5 (by decide), h 6 (by decide)⟩
def fxV (ls : List Fx) : List Value := ls.flatMap Fx.cells
theorem fxV_len (ls : List Fx) : (fxV ls).length = ls.length * 7 := by
  induction ls with
  | nil => rfl
  | cons s r ih => show (s.cells ++ fxV r).length = _; rw [List.length_append, ih, List.length_cons]; show 7 + _ = _; omega
theorem fxV_get : ∀ (ls : List Fx) (j c : Nat), j < ls.length → c < 7 → (fxV ls)[j * 7 + c]? = (ls.getD j .zero).cells[c]?
  | [], j, c, hj, _ => by simp at hj
  | s :: r, 0, c, _, hc => by
    show (s.cells ++ fxV r)[0 * 7 + c]? = _
    rw [Nat.zero_mul, Nat.zero_add, List.getElem?_append_left (by show c < 7; exact hc)]
    rfl
  | s :: r, j + 1, c, hj, hc => by
    show (s.cells ++ fxV r)[(j + 1) * 7 + c]? = _
    rw [List.getElem?_append_right (by show 7 ≤ _; omega)]
    have := fxV_get r j c (by simpa using hj) hc
    show (fxV r)[(j + 1) * 7 + c - 7]? = _
    rw [show (j + 1) * 7 + c - 7 = j * 7 + c by omega, this]
    simp
theorem fxV_snoc (ls : List Fx) (s : Fx) : fxV (ls ++ [s]) = fxV ls ++ s.cells := by simp [fxV]
/-- A row of fixups that is the call's own. -/
def FxBuf (w : World) (base : Nat) (v : Value) (ls : List Fx) : Prop := w.ownsRow base 32 7 v ls.length (fxV ls)
theorem FxBuf.nil (w : World) (base : Nat) : FxBuf w base (.slice none 0 0) [] := ⟨rfl, .inl ⟨rfl, rfl⟩⟩
theorem FxBuf.rd {w : World} {base : Nat} {v : Value} {ls : List Fx} (h : FxBuf w base v ls) : FxRd w v ls := by
  obtain ⟨hl, hv⟩ := h
  rcases hv with ⟨rfl, h0⟩ | ⟨g, cap, cur, rfl, hb, hg, hnc, hcm, hcs, htake⟩
  · have : ls = [] := List.eq_nil_of_length_eq_zero h0
    subst this
    exact ⟨_, _, _, rfl, rfl, Nat.le_refl _, Nat.zero_le _, fun h => absurd rfl h⟩
  · refine ⟨_, _, _, rfl, rfl, hnc, hcm, fun _ => ⟨g, 0, rfl, lt_of_heap hg, fun j hj c hc => ?_⟩⟩
    rw [cell_of_heap hg, ← fxV_get ls j c hj hc, ← htake, List.getElem?_take, if_pos (by omega), Nat.zero_add]
    simp
theorem FxBuf.pure {w w' : World} {base : Nat} {v : Value} {ls : List Fx} (h : FxBuf w base v ls) (k : Chg [] w w') : FxBuf w' base v ls := owned_frame h k (fun _ _ hm => by cases hm)
theorem FxBuf.frame {w w' : World} {base : Nat} {v : Value} {ls : List Fx} (h : FxBuf w base v ls) {S : List Nat} (k : Chg S w w') (hn : ∀ b, v.ownBlock = some b → b ∉ S) : FxBuf w' base v ls := owned_frame h k hn
theorem FxBuf.mono {w : World} {base base' : Nat} {v : Value} {ls : List Fx} (h : FxBuf w base v ls) (hb : base' ≤ base) : FxBuf w base' v ls := owned_base h hb
theorem Tryd.infoFx : (Tryd.prog.info? 32).map (fun i => (i.zero, i.size, i.bytes)) = some (some (.agg #[.int .u64 0, .int .i64 0, .int .u64 0, .int .i64 0, .string ⟨#[]⟩, .int .i64 0, .bool false]), 7, 64) := by kernel_rfl
theorem Tryd.uFxsF : Tryd.prog.underlying 22 = some (.slice 32) := by kernel_rfl

theorem fx_eqv (a b : Fx) : decide (a = b) = (decide (a.at_ = b.at_) && (decide (a.kind = b.kind) && (decide (a.tgt = b.tgt) && (decide (a.ord = b.ord) && (decide (a.sym.toList = b.sym.toList) && (decide (a.add = b.add) && decide (a.weak = b.weak))))))) := by
  obtain ⟨a1, a2, a3, a4, a5, a6, a7⟩ := a
  obtain ⟨b1, b2, b3, b4, b5, b6, b7⟩ := b
  have h5 : decide (a5.toList = b5.toList) = decide (a5 = b5) := decide_eq_decide.2 ⟨fun e => by rw [Lib.toList_data, Lib.toList_data] at e; exact ByteArray.ext (Array.toList_inj.1 e), fun e => by rw [e]⟩
  simp only [h5]
  simp [Bool.decide_and]
set_option maxHeartbeats 2000000 in
theorem fx_eql (a b : Fx) (W : World) : (binOp .eql 32 (.agg #[.int .u64 a.at_, .int .i64 a.kind, .int .u64 a.tgt, .int .i64 a.ord, .string a.sym, .int .i64 a.add, .bool a.weak]) (.agg #[.int .u64 b.at_, .int .i64 b.kind, .int .u64 b.tgt, .int .i64 b.ord, .string b.sym, .int .i64 b.add, .bool b.weak])).run Tryd.prog W = .ok (.bool (decide (a = b))) W := by
  rw [fx_eqv]
  go_simp
  (repeat' split) <;> simp [*]
set_option maxHeartbeats 2000000 in
theorem fx_neq (a b : Fx) (W : World) : (binOp .neq 32 (.agg #[.int .u64 a.at_, .int .i64 a.kind, .int .u64 a.tgt, .int .i64 a.ord, .string a.sym, .int .i64 a.add, .bool a.weak]) (.agg #[.int .u64 b.at_, .int .i64 b.kind, .int .u64 b.tgt, .int .i64 b.ord, .string b.sym, .int .i64 b.add, .bool b.weak])).run Tryd.prog W = .ok (.bool (!decide (a = b))) W := by
  rw [fx_eqv]
  go_simp
  (repeat' split) <;> simp [*]

set_option maxHeartbeats 4000000 in
theorem REqual_any (ls ms : List Fx) (v v' : Value) (w : World) (rd : FxRd w v ls) (rd' : FxRd w v' ms) :
    Calls Tryd.prog 6 #[v, v'] w fun e w' => e = .returned (.bool (decide (ls = ms))) ∧ Chg [] w w' := by
  obtain ⟨a, n, cap, rfl, rfl, hc1, hc2, hx⟩ := rd
  obtain ⟨a', n', cap', rfl, rfl, hc1', hc2', hx'⟩ := rd'
  unfold maxLen at hc2 hc2'
  have Hx := Lib.hid hx
  have HY := Lib.hid hx'
  clear hx hx'
  by_cases hlen : ls.length = ms.length
  case neg =>
    have d1 : ((ls.length : Int) != (ms.length : Int)) = true := by simp; omega
    have HF : Hid (decide (ls = ms) = false) := Lib.hid (by rw [decide_eq_false_iff_not]; rintro rfl; exact hlen rfl)
    clear hlen
    go_enter Tryd.func6, Tryd.ntmps6
    go_wp2
    go_ret
    exact ⟨by rw [HF.out]; rfl, Chg.refl _ _⟩
  have d1 : ((ls.length : Int) != (ms.length : Int)) = false := by simp; omega
  have HLEN := Lib.hid (hlen)
  have hlen' : ms.length = ls.length := hlen.symm
  clear hlen
  go_enter Tryd.func6, Tryd.ntmps6
  go_wp2_with fail
  go_loopw [5] (fun s5 wr => ∃ k : Nat, k ≤ ls.length ∧ s5 = .int .i64 (k : Int) ∧ (∀ j, j < k → ls.getD j .zero = ms.getD j .zero) ∧ Chg [] w wr) (fun s5 _ => ls.length - (intOf s5).toNat)
  case atStart => exact ⟨0, Nat.zero_le _, rfl, fun _ h => absurd h (Nat.not_lt_zero _), Chg.refl _ _⟩
  case round =>
    obtain ⟨k, hk, rfl, heq, hch⟩ := hrel
    have Hch := Lib.hid hch
    have Heq := Lib.hid heq
    clear hch heq
    by_cases hlt : k < ls.length
    · obtain ⟨b, off, rfl, _, hcell⟩ := Hx.out (by rintro rfl; simp at hlt)
      obtain ⟨b', off', rfl, _, hcell'⟩ := HY.out (by rintro rfl; have := HLEN.out; rw [this] at hlt; simp at hlt)
      obtain ⟨h0, h1, h2, h3, h4, h5, h6⟩ := FxRd.at (hcell k hlt)
      obtain ⟨j0, j1, j2, j3, j4, j5, j6⟩ := FxRd.at (hcell' k (by omega))
      obtain ⟨f, hf⟩ : ∃ f, f = ls.getD k .zero := ⟨_, rfl⟩
      obtain ⟨g, hg⟩ : ∃ g, g = ms.getD k .zero := ⟨_, rfl⟩
      rw [← hf] at h0 h1 h2 h3 h4 h5 h6
      rw [← hg] at j0 j1 j2 j3 j4 j5 j6
      replace h0 := Hch.out.cell h0 (by simp)
      replace h1 := Hch.out.cell h1 (by simp)
      replace h2 := Hch.out.cell h2 (by simp)
      replace h3 := Hch.out.cell h3 (by simp)
      replace h4 := Hch.out.cell h4 (by simp)
      replace h5 := Hch.out.cell h5 (by simp)
      replace h6 := Hch.out.cell h6 (by simp)
      replace j0 := Hch.out.cell j0 (by simp)
      replace j1 := Hch.out.cell j1 (by simp)
      replace j2 := Hch.out.cell j2 (by simp)
      replace j3 := Hch.out.cell j3 (by simp)
      replace j4 := Hch.out.cell j4 (by simp)
      replace j5 := Hch.out.cell j5 (by simp)
      replace j6 := Hch.out.cell j6 (by simp)
      have Hf := Lib.hid hf
      have Hg := Lib.hid hg
      clear hf hg
      clear hcell hcell'
      have q := fx_neq f g
      by_cases hfg : f = g
      · have e : decide (f = g) = true := by simpa using hfg
        rw [e] at q
        have Hfg := Lib.hid hfg
        clear hfg
        clear e
        go_wp2_with fail
        go_quiet (fail)
        go_wp2
        go_roundw
        case rel =>
          refine ⟨k + 1, hlt, by go_num, fun j hj => ?_, Hch.out.drewN _⟩
          by_cases e : j = k
          · subst e; rw [← Hf.out, ← Hg.out]; exact Hfg.out
          · exact Heq.out j (by omega)
        case measure => simp [intOf]; omega
      · have e : decide (f = g) = false := by simpa using hfg
        rw [e] at q
        have HF : Hid (decide (ls = ms) = false) := by
          refine Lib.hid ?_
          rw [decide_eq_false_iff_not]
          rintro rfl
          exact hfg (by rw [Hf.out, Hg.out])
        clear e hfg
        go_wp2_with fail
        go_quiet (fail)
        go_wp2
        go_ret
        exact ⟨by rw [HF.out]; rfl, Hch.out.drewN _⟩
    · obtain rfl : k = ls.length := by omega
      have HF : Hid (decide (ls = ms) = true) := by
        refine Lib.hid ?_
        rw [decide_eq_true_eq]
        refine List.ext_getElem HLEN.out (fun j h1 h2 => ?_)
        have := Heq.out j h1
        simpa [List.getD_eq_getElem?_getD, h1, h2] using this
      go_wp2
      go_ret
      exact ⟨by rw [HF.out]; rfl, Hch.out⟩
end Go.Proofs.YtmfphdaoenkmnaaDoor
