/- Lemmas, laid together: part 7 of 41. Conditions: none but each lemma's own. -/
import Derived.Test.YtkomocgodljecaaGreatDoorK4
import Derived.Test.YtkomocgodljecaaGreatDoorK6
import Derived.Shelf.SlSortCmp.WholeK
import Derived.Shelf.SlicesE.Clone
import Derived.Shelf.SlicesQ.Equal
import Derived.Test.YtkomocgodljecaaGreatDoorProg
/- Sets of fixups (plain). -/
namespace Go.Proofs.YtkomocgodljecaaGreatDoor
set_option maxRecDepth 100000

instance : DecidableEq Fx := fun a b => decidable_of_iff (ordF a b = 0) ordF_eq
theorem ord_anti (a b : Fx) : ordF a b = - ordF b a := ordF_is.anti a b
theorem ord_lt_trans {a b c : Fx} (h : ordF a b < 0) (k : ordF b c < 0) : ordF a c < 0 := by
  have h1 := ordF_is.trans a b c (by omega) (by omega)
  have h2 : ordF a c ≠ 0 := fun e => by
    have := ordF_is.left a c b e
    have := ordF_is.anti c b
    omega
  omega
theorem ord_self (a : Fx) : ordF a a = 0 := ordF_eq.2 rfl
/-- In order, each once. -/
def SS (l : List Fx) : Prop := l.Pairwise fun a b => ordF a b < 0
/-- A fixup, put in where it stands, if it is not there. -/
def insF (x : Fx) : List Fx → List Fx
  | [] => [x]
  | y :: r => if ordF y x < 0 then y :: insF x r else if ordF y x = 0 then y :: r else x :: y :: r
theorem mem_insF {x z : Fx} {l : List Fx} : z ∈ insF x l ↔ z = x ∨ z ∈ l := by
  induction l with
  | nil => simp [insF]
  | cons y r ih =>
    unfold insF
    split
    · simp only [List.mem_cons, ih]
      constructor
      · rintro (h | h | h)
        · exact .inr (.inl h)
        · exact .inl h
        · exact .inr (.inr h)
      · rintro (h | h | h)
        · exact .inr (.inl h)
        · exact .inl h
        · exact .inr (.inr h)
    · split
      · rename_i h
        have : y = x := ordF_eq.1 h
        subst this
        simp
      · simp
theorem ss_insF {x : Fx} {l : List Fx} (h : SS l) : SS (insF x l) := by
  induction l with
  | nil => simp [insF, SS]
  | cons y r ih =>
    have h' := List.pairwise_cons.1 h
    unfold insF
    split
    · rename_i hy
      refine List.pairwise_cons.2 ⟨fun z hz => ?_, ih h'.2⟩
      rcases mem_insF.1 hz with rfl | hz
      · exact hy
      · exact h'.1 z hz
    · split
      · exact h
      · rename_i h1 h2
        have hx : ordF x y < 0 := by have := ord_anti x y; omega
        refine List.pairwise_cons.2 ⟨fun z hz => ?_, h⟩
        rcases List.mem_cons.1 hz with rfl | hz
        · exact hx
        · exact ord_lt_trans hx (h'.1 z hz)
def setF (l : List Fx) : List Fx := l.foldl (fun s x => insF x s) []
theorem setF_fold (l : List Fx) : ∀ s, SS s → SS (l.foldl (fun s x => insF x s) s) ∧ ∀ z, z ∈ l.foldl (fun s x => insF x s) s ↔ z ∈ s ∨ z ∈ l := by
  induction l with
  | nil => intro s hs; exact ⟨hs, fun z => by simp⟩
  | cons x r ih =>
    intro s hs
    obtain ⟨h1, h2⟩ := ih (insF x s) (ss_insF hs)
    refine ⟨h1, fun z => ?_⟩
    rw [List.foldl_cons, h2 z, mem_insF, List.mem_cons]
    constructor
    · rintro ((h | h) | h)
      · exact .inr (.inl h)
      · exact .inl h
      · exact .inr (.inr h)
    · rintro (h | h | h)
      · exact .inl (.inr h)
      · exact .inl (.inl h)
      · exact .inr h
theorem ss_setF (l : List Fx) : SS (setF l) := (setF_fold l [] List.Pairwise.nil).1
theorem mem_setF {z : Fx} {l : List Fx} : z ∈ setF l ↔ z ∈ l := by
  have := (setF_fold l [] List.Pairwise.nil).2 z
  simpa [setF] using this
theorem setF_snoc (l : List Fx) (x : Fx) : setF (l ++ [x]) = insF x (setF l) := by simp [setF, List.foldl_append]
/-- Two lists in order, with the same in them, are one. -/
theorem ss_unique : ∀ {l m : List Fx}, SS l → SS m → (∀ z, z ∈ l ↔ z ∈ m) → l = m
  | [], [], _, _, _ => rfl
  | [], y :: m, _, _, h => by have := (h y).2 (List.mem_cons_self ..); cases this
  | x :: l, [], _, _, h => by have := (h x).1 (List.mem_cons_self ..); cases this
  | x :: l, y :: m, hl, hm, h => by
    have hl' := List.pairwise_cons.1 hl
    have hm' := List.pairwise_cons.1 hm
    have hxy : x = y := by
      rcases List.mem_cons.1 ((h x).1 (List.mem_cons_self ..)) with e | e
      · exact e
      rcases List.mem_cons.1 ((h y).2 (List.mem_cons_self ..)) with e' | e'
      · exact e'.symm
      have h1 := hm'.1 x e
      have h2 := hl'.1 y e'
      have := ord_lt_trans h1 h2
      rw [ord_self] at this
      omega
    subst hxy
    congr 1
    refine ss_unique hl'.2 hm'.2 (fun z => ?_)
    constructor
    · intro hz
      rcases List.mem_cons.1 ((h z).1 (List.mem_cons_of_mem _ hz)) with e | e
      · subst e; have := hl'.1 z hz; rw [ord_self] at this; omega
      · exact e
    · intro hz
      rcases List.mem_cons.1 ((h z).2 (List.mem_cons_of_mem _ hz)) with e | e
      · subst e; have := hm'.1 z hz; rw [ord_self] at this; omega
      · exact e
theorem setF_perm {l m : List Fx} (h : ∀ z, z ∈ l ↔ z ∈ m) : setF l = setF m := ss_unique (ss_setF l) (ss_setF m) (fun z => by rw [mem_setF, mem_setF]; exact h z)
theorem setF_len (l : List Fx) : (setF l).length ≤ l.length := by
  have key : ∀ (l s : List Fx), (l.foldl (fun s x => insF x s) s).length ≤ s.length + l.length := by
    intro l
    induction l with
    | nil => intro s; exact Nat.le_refl _
    | cons x r ih =>
      intro s
      have h1 := ih (insF x s)
      have h2 : ∀ s : List Fx, (insF x s).length ≤ s.length + 1 := by
        intro s
        induction s with
        | nil => exact Nat.le_refl _
        | cons y t ih2 =>
          unfold insF
          split
          · simp only [List.length_cons]; omega
          · split
            · simp
            · simp
      have := h2 s
      rw [List.foldl_cons, List.length_cons]
      omega
  simpa [setF] using key l []
/-- Where a fixup is put in: behind those that are less. -/
theorem insF_at (x : Fx) : ∀ (l : List Fx) (k : Nat), SS l → k ≤ l.length → (∀ j y, j < k → l[j]? = some y → ordF y x < 0) → (∀ j y, k ≤ j → l[j]? = some y → ¬ ordF y x < 0) →
    insF x l = if l[k]? = some x then l else l.take k ++ x :: l.drop k
  | [], k, _, hk, _, _ => by
    obtain rfl : k = 0 := by simpa using hk
    simp [insF]
  | y :: r, 0, hs, _, _, h2 => by
    have hy := h2 0 y (Nat.le_refl _) rfl
    unfold insF
    rw [if_neg hy]
    by_cases he : ordF y x = 0
    · have := ordF_eq.1 he
      subst this
      rw [if_pos he]
      simp
    · rw [if_neg he, if_neg (fun e => he (by simp at e; rw [e]; exact ord_self x))]
      rfl
  | y :: r, k + 1, hs, hk, h1, h2 => by
    have hy := h1 0 y (by omega) rfl
    have ih := insF_at x r k (List.pairwise_cons.1 hs).2 (by simpa using hk) (fun j z hj hz => h1 (j + 1) z (by omega) hz) (fun j z hj hz => h2 (j + 1) z (by omega) hz)
    unfold insF
    rw [if_pos hy, ih]
    simp only [List.getElem?_cons_succ, List.take_succ_cons, List.drop_succ_cons]
    split <;> rfl
/-- In order: the same may stand twice. -/
def SLfx (l : List Fx) : Prop := l.Pairwise fun a b => ¬ ordF b a < 0
/-- Without what is there twice, side by side. -/
def compF : List Fx → List Fx
  | [] => []
  | [x] => [x]
  | x :: y :: r => if x = y then compF (y :: r) else x :: compF (y :: r)
theorem mem_compF {z : Fx} : ∀ {l : List Fx}, z ∈ compF l ↔ z ∈ l
  | [] => by simp [compF]
  | [x] => by simp [compF]
  | x :: y :: r => by
    have ih := mem_compF (z := z) (l := y :: r)
    unfold compF
    split
    · rename_i h
      rw [ih, h]
      simp
    · rw [List.mem_cons, ih, List.mem_cons (a := z) (b := x)]
theorem ss_compF : ∀ {l : List Fx}, SLfx l → SS (compF l)
  | [], _ => List.Pairwise.nil
  | [x], _ => by simp [compF, SS]
  | x :: y :: r, h => by
    have h' := List.pairwise_cons.1 h
    have ih := ss_compF (l := y :: r) h'.2
    unfold compF
    split
    · exact ih
    · rename_i hne
      refine List.pairwise_cons.2 ⟨fun z hz => ?_, ih⟩
      have h1 : ¬ ordF y x < 0 := h'.1 y (List.mem_cons_self ..)
      have h2 : ordF x y < 0 := by
        have h3 := ordF_is.one x y
        have h4 := ord_anti x y
        have h5 : ordF x y ≠ 0 := fun e => hne (ordF_eq.1 e)
        omega
      rcases List.mem_cons.1 (mem_compF.1 hz) with rfl | hz
      · exact h2
      · have h6 : ¬ ordF z y < 0 := (List.pairwise_cons.1 h'.2).1 z hz
        have h7 := ord_anti z y
        by_cases e : ordF y z = 0
        · rw [← ordF_eq.1 e]; exact h2
        · exact ord_lt_trans h2 (by have := ordF_is.one y z; omega)
theorem compF_set {l : List Fx} (h : SLfx l) : compF l = setF l := ss_unique (ss_compF h) (ss_setF l) (fun z => by rw [mem_compF, mem_setF])
/-- Do two of them, one unlike the other, stand less than 8 bytes apart? -/
def apart8 (a b : Fx) : Bool := decide ((if a.at_ < b.at_ then b.at_ - a.at_ else a.at_ - b.at_) < 8)
def meetF (l : List Fx) : Bool := l.any fun a => l.any fun b => decide (a ≠ b) && apart8 a b
end Go.Proofs.YtkomocgodljecaaGreatDoor
/- Rows of fixups: read, made, appended to; two fixups compared. -/
namespace Go.Proofs.YtkomocgodljecaaGreatDoor
open Go.RowKit
set_option maxRecDepth 100000

def Fx.zero : Fx := ⟨0, 0, 0, 0, ⟨#[]⟩, 0, false⟩
def Fx.cells (f : Fx) : List Value := [.int .u64 f.at_, .int .i64 f.kind, .int .u64 f.tgt, .int .i64 f.ord, .string f.sym, .int .i64 f.add, .bool f.weak]
/-- The slice value v of fixups reads as ls. -/
def FxRd (w : World) (v : Value) (ls : List Fx) : Prop :=
  ∃ a n cap, v = .slice a n cap ∧ n = ls.length ∧ n ≤ cap ∧ cap ≤ maxLen ∧
    (ls ≠ [] → ∃ b off, a = some ⟨b, off, none⟩ ∧ b < w.heap.size ∧ ∀ j, j < ls.length → ∀ c, c < 7 → w.cell? ⟨b, off + j * 7 + c, none⟩ = (ls.getD j .zero).cells[c]?)
theorem FxRd.frame {w w' : World} {v : Value} {ls : List Fx} (h : FxRd w v ls) (k : Chg [] w w') : FxRd w' v ls := by
  obtain ⟨a, n, cap, rfl, hn, hc, hm, hx⟩ := h
  refine ⟨a, n, cap, rfl, hn, hc, hm, fun hne => ?_⟩
  obtain ⟨b, off, rfl, hb, hcell⟩ := hx hne
  refine ⟨b, off, rfl, Nat.lt_of_lt_of_le hb k.size, fun j hj c hc => ?_⟩
  have h1 := hcell j hj c hc
  cases hv : (ls.getD j .zero).cells[c]? with
  | none => have : c < (ls.getD j .zero).cells.length := hc; rw [List.getElem?_eq_getElem this] at hv; cases hv
  | some u => rw [hv] at h1; exact k.cell h1 (by simp)
theorem FxRd.at {w : World} {b off j : Nat} {f : Fx} (h : ∀ c, c < 7 → w.cell? ⟨b, off + j * 7 + c, none⟩ = f.cells[c]?) :
    w.cell? ⟨b, off + j * 7, none⟩ = some (.int .u64 f.at_) ∧ w.cell? ⟨b, off + j * 7 + 1, none⟩ = some (.int .i64 f.kind) ∧ w.cell? ⟨b, off + j * 7 + 2, none⟩ = some (.int .u64 f.tgt) ∧ w.cell? ⟨b, off + j * 7 + 3, none⟩ = some (.int .i64 f.ord) ∧ w.cell? ⟨b, off + j * 7 + 4, none⟩ = some (.string f.sym) ∧ w.cell? ⟨b, off + j * 7 + 5, none⟩ = some (.int .i64 f.add) ∧ w.cell? ⟨b, off + j * 7 + 6, none⟩ = some (.bool f.weak) :=
  ⟨h 0 (by decide), h 1 (by decide), h 2 (by decide), h 3 (by decide), h 4 (by decide), h 5 (by decide), h 6 (by decide)⟩
def fxV (ls : List Fx) : List Value := ls.flatMap Fx.cells
theorem fxV_len (ls : List Fx) : (fxV ls).length = ls.length * 7 := by
  induction ls with
  | nil => rfl
  | cons s r ih => show (s.cells ++ fxV r).length = _; rw [List.length_append, ih, List.length_cons]; show 7 + _ = _; omega
theorem fxV_get : ∀ (ls : List Fx) (j c : Nat), j < ls.length → c < 7 → (fxV ls)[j * 7 + c]? = (ls.getD j .zero).cells[c]?
  | [], j, c, hj, _ => by simp at hj
  | s :: r, 0, c, _, hc => by
    show (s.cells ++ fxV r)[0 * 7 + c]? = _
    rw [Nat.zero_mul, Nat.zero_add, List.getElem?_append_left (by show c < 7; exact hc)]
    rfl
  | s :: r, j + 1, c, hj, hc => by
    show (s.cells ++ fxV r)[(j + 1) * 7 + c]? = _
    rw [List.getElem?_append_right (by show 7 ≤ _; omega)]
    have := fxV_get r j c (by simpa using hj) hc
    show (fxV r)[(j + 1) * 7 + c - 7]? = _
    rw [show (j + 1) * 7 + c - 7 = j * 7 + c by omega, this]
    simp
theorem fxV_snoc (ls : List Fx) (s : Fx) : fxV (ls ++ [s]) = fxV ls ++ s.cells := by simp [fxV]
/-- A row of fixups that is the call's own. -/
def FxBuf (w : World) (base : Nat) (v : Value) (ls : List Fx) : Prop := w.ownsRow base 53 7 v ls.length (fxV ls)
theorem FxBuf.nil (w : World) (base : Nat) : FxBuf w base (.slice none 0 0) [] := ⟨rfl, .inl ⟨rfl, rfl⟩⟩
theorem FxBuf.rd {w : World} {base : Nat} {v : Value} {ls : List Fx} (h : FxBuf w base v ls) : FxRd w v ls := by
  obtain ⟨hl, hv⟩ := h
  rcases hv with ⟨rfl, h0⟩ | ⟨g, cap, cur, rfl, hb, hg, hnc, hcm, hcs, htake⟩
  · have : ls = [] := List.eq_nil_of_length_eq_zero h0
    subst this
    exact ⟨_, _, _, rfl, rfl, Nat.le_refl _, Nat.zero_le _, fun h => absurd rfl h⟩
  · refine ⟨_, _, _, rfl, rfl, hnc, hcm, fun _ => ⟨g, 0, rfl, lt_of_heap hg, fun j hj c hc => ?_⟩⟩
    rw [cell_of_heap hg, ← fxV_get ls j c hj hc, ← htake, List.getElem?_take, if_pos (by omega), Nat.zero_add]
    simp
theorem FxBuf.pure {w w' : World} {base : Nat} {v : Value} {ls : List Fx} (h : FxBuf w base v ls) (k : Chg [] w w') : FxBuf w' base v ls := owned_frame12 h k (fun _ _ hm => by cases hm)
theorem FxBuf.frame {w w' : World} {base : Nat} {v : Value} {ls : List Fx} (h : FxBuf w base v ls) {S : List Nat} (k : Chg S w w') (hn : ∀ b, v.ownBlock = some b → b ∉ S) : FxBuf w' base v ls := owned_frame12 h k hn
theorem FxBuf.mono {w : World} {base base' : Nat} {v : Value} {ls : List Fx} (h : FxBuf w base v ls) (hb : base' ≤ base) : FxBuf w base' v ls := owned_base12 h hb
theorem Tryz.infoFx : (Tryz.prog.info? 53).map (fun i => (i.zero, i.size, i.bytes)) = some (some (.agg #[.int .u64 0, .int .i64 0, .int .u64 0, .int .i64 0, .string ⟨#[]⟩, .int .i64 0, .bool false]), 7, 64) := by kernel_rfl
theorem Tryz.uFxsF : Tryz.prog.underlying 31 = some (.slice 53) := by kernel_rfl

theorem fx_eqv (a b : Fx) : decide (a = b) = (decide (a.at_ = b.at_) && (decide (a.kind = b.kind) && (decide (a.tgt = b.tgt) && (decide (a.ord = b.ord) && (decide (a.sym.toList = b.sym.toList) && (decide (a.add = b.add) && decide (a.weak = b.weak))))))) := by
  obtain ⟨a1, a2, a3, a4, a5, a6, a7⟩ := a
  obtain ⟨b1, b2, b3, b4, b5, b6, b7⟩ := b
  have h5 : decide (a5.toList = b5.toList) = decide (a5 = b5) := decide_eq_decide.2 ⟨fun e => by rw [Lib.toList_data, Lib.toList_data] at e; exact ByteArray.ext (Array.toList_inj.1 e), fun e => by rw [e]⟩
  simp only [h5]
  simp [Bool.decide_and]
set_option maxHeartbeats 2000000 in
theorem fx_eql (a b : Fx) (W : World) : (binOp .eql 53 (.agg #[.int .u64 a.at_, .int .i64 a.kind, .int .u64 a.tgt, .int .i64 a.ord, .string a.sym, .int .i64 a.add, .bool a.weak]) (.agg #[.int .u64 b.at_, .int .i64 b.kind, .int .u64 b.tgt, .int .i64 b.ord, .string b.sym, .int .i64 b.add, .bool b.weak])).run Tryz.prog W = .ok (.bool (decide (a = b))) W := by
  rw [fx_eqv]
  go_simp
  (repeat' split) <;> simp [*]
set_option maxHeartbeats 2000000 in
theorem fx_neq (a b : Fx) (W : World) : (binOp .neq 53 (.agg #[.int .u64 a.at_, .int .i64 a.kind, .int .u64 a.tgt, .int .i64 a.ord, .string a.sym, .int .i64 a.add, .bool a.weak]) (.agg #[.int .u64 b.at_, .int .i64 b.kind, .int .u64 b.tgt, .int .i64 b.ord, .string b.sym, .int .i64 b.add, .bool b.weak])).run Tryz.prog W = .ok (.bool (!decide (a = b))) W := by
  rw [fx_eqv]
  go_simp
  (repeat' split) <;> simp [*]

set_option maxHeartbeats 4000000 in
theorem REqual_any (ls ms : List Fx) (v v' : Value) (w : World) (rd : FxRd w v ls) (rd' : FxRd w v' ms) :
    Calls Tryz.prog 11 #[v, v'] w fun e w' => e = .returned (.bool (decide (ls = ms))) ∧ Chg [] w w' := by
  obtain ⟨a, n, cap, rfl, rfl, hc1, hc2, hx⟩ := rd
  obtain ⟨a', n', cap', rfl, rfl, hc1', hc2', hx'⟩ := rd'
  unfold maxLen at hc2 hc2'
  have Hx := Lib.hid hx
  have HY := Lib.hid hx'
  clear hx hx'
  by_cases hlen : ls.length = ms.length
  case neg =>
    have d1 : ((ls.length : Int) != (ms.length : Int)) = true := by simp; omega
    have HF : Hid (decide (ls = ms) = false) := Lib.hid (by rw [decide_eq_false_iff_not]; rintro rfl; exact hlen rfl)
    clear hlen
    go_enter Tryz.func11, Tryz.ntmps11
    go_wp2
    go_ret
    exact ⟨by rw [HF.out]; rfl, Chg.refl _ _⟩
  have d1 : ((ls.length : Int) != (ms.length : Int)) = false := by simp; omega
  have HLEN := Lib.hid (hlen)
  have hlen' : ms.length = ls.length := hlen.symm
  clear hlen
  go_enter Tryz.func11, Tryz.ntmps11
  go_wp2_with fail
  go_loopw [5] (fun s5 wr => ∃ k : Nat, k ≤ ls.length ∧ s5 = .int .i64 (k : Int) ∧ (∀ j, j < k → ls.getD j .zero = ms.getD j .zero) ∧ Chg [] w wr) (fun s5 _ => ls.length - (intOf s5).toNat)
  case atStart => exact ⟨0, Nat.zero_le _, rfl, fun _ h => absurd h (Nat.not_lt_zero _), Chg.refl _ _⟩
  case round =>
    obtain ⟨k, hk, rfl, heq, hch⟩ := hrel
    have Hch := Lib.hid hch
    have Heq := Lib.hid heq
    clear hch heq
    by_cases hlt : k < ls.length
    · obtain ⟨b, off, rfl, _, hcell⟩ := Hx.out (by rintro rfl; simp at hlt)
      obtain ⟨b', off', rfl, _, hcell'⟩ := HY.out (by rintro rfl; have := HLEN.out; rw [this] at hlt; simp at hlt)
      obtain ⟨h0, h1, h2, h3, h4, h5, h6⟩ := FxRd.at (hcell k hlt)
      obtain ⟨j0, j1, j2, j3, j4, j5, j6⟩ := FxRd.at (hcell' k (by omega))
      obtain ⟨f, hf⟩ : ∃ f, f = ls.getD k .zero := ⟨_, rfl⟩
      obtain ⟨g, hg⟩ : ∃ g, g = ms.getD k .zero := ⟨_, rfl⟩
      rw [← hf] at h0 h1 h2 h3 h4 h5 h6
      rw [← hg] at j0 j1 j2 j3 j4 j5 j6
      replace h0 := Hch.out.cell h0 (by simp)
      replace h1 := Hch.out.cell h1 (by simp)
      replace h2 := Hch.out.cell h2 (by simp)
      replace h3 := Hch.out.cell h3 (by simp)
      replace h4 := Hch.out.cell h4 (by simp)
      replace h5 := Hch.out.cell h5 (by simp)
      replace h6 := Hch.out.cell h6 (by simp)
      replace j0 := Hch.out.cell j0 (by simp)
      replace j1 := Hch.out.cell j1 (by simp)
      replace j2 := Hch.out.cell j2 (by simp)
      replace j3 := Hch.out.cell j3 (by simp)
      replace j4 := Hch.out.cell j4 (by simp)
      replace j5 := Hch.out.cell j5 (by simp)
      replace j6 := Hch.out.cell j6 (by simp)
      have Hf := Lib.hid hf
      have Hg := Lib.hid hg
      clear hf hg
      clear hcell hcell'
      have q := fx_neq f g
      by_cases hfg : f = g
      · have e : decide (f = g) = true := by simpa using hfg
        rw [e] at q
        have Hfg := Lib.hid hfg
        clear hfg
        clear e
        go_wp2_with fail
        go_quiet (fail)
        go_wp2
        go_roundw
        case rel =>
          refine ⟨k + 1, hlt, by go_num, fun j hj => ?_, Hch.out.drewN _⟩
          by_cases e : j = k
          · subst e; rw [← Hf.out, ← Hg.out]; exact Hfg.out
          · exact Heq.out j (by omega)
        case measure => simp [intOf]; omega
      · have e : decide (f = g) = false := by simpa using hfg
        rw [e] at q
        have HF : Hid (decide (ls = ms) = false) := by
          refine Lib.hid ?_
          rw [decide_eq_false_iff_not]
          rintro rfl
          exact hfg (by rw [Hf.out, Hg.out])
        clear e hfg
        go_wp2_with fail
        go_quiet (fail)
        go_wp2
        go_ret
        exact ⟨by rw [HF.out]; rfl, Hch.out.drewN _⟩
    · obtain rfl : k = ls.length := by omega
      have HF : Hid (decide (ls = ms) = true) := by
        refine Lib.hid ?_
        rw [decide_eq_true_eq]
        refine List.ext_getElem HLEN.out (fun j h1 h2 => ?_)
        have := Heq.out j h1
        simpa [List.getD_eq_getElem?_getD, h1, h2] using this
      go_wp2
      go_ret
      exact ⟨by rw [HF.out]; rfl, Hch.out⟩
end Go.Proofs.YtkomocgodljecaaGreatDoor
/- Writes into a row of fixups; append of a fixup. -/
namespace Go.Proofs.YtkomocgodljecaaGreatDoor
open Go.RowKit
set_option maxRecDepth 100000

def set7 (l : List Value) (o : Nat) (f : Fx) : List Value :=
  ((((((l.set o (.int .u64 f.at_)).set (o + 1) (.int .i64 f.kind)).set (o + 2) (.int .u64 f.tgt)).set (o + 3) (.int .i64 f.ord)).set (o + 4) (.string f.sym)).set (o + 5) (.int .i64 f.add)).set (o + 6) (.bool f.weak)
theorem fxV_set (f : Fx) : ∀ (ls : List Fx) (j : Nat), j < ls.length → set7 (fxV ls) (j * 7) f = fxV (ls.set j f)
  | [], j, h => by simp at h
  | s :: r, 0, _ => by
    show set7 (s.cells ++ fxV r) 0 f = f.cells ++ fxV r
    simp [set7, Fx.cells]
  | s :: r, j + 1, h => by
    have ih := fxV_set f r j (by simpa using h)
    show set7 (s.cells ++ fxV r) ((j + 1) * 7) f = s.cells ++ fxV (r.set j f)
    rw [← ih, show (j + 1) * 7 = j * 7 + 7 by omega]
    have e : ∀ (l : List Value) (i : Nat) (u : Value), (s.cells ++ l).set (7 + i) u = s.cells ++ l.set i u := fun l i u => by
      rw [List.set_append_right _ _ (by show 7 ≤ 7 + i; omega)]
      show s.cells ++ l.set (7 + i - 7) u = _
      rw [Nat.add_sub_cancel_left]
    unfold set7
    rw [show j * 7 + 7 = 7 + j * 7 by omega, e, show 7 + j * 7 + 1 = 7 + (j * 7 + 1) by omega, e, show 7 + j * 7 + 2 = 7 + (j * 7 + 2) by omega, e, show 7 + j * 7 + 3 = 7 + (j * 7 + 3) by omega, e, show 7 + j * 7 + 4 = 7 + (j * 7 + 4) by omega, e, show 7 + j * 7 + 5 = 7 + (j * 7 + 5) by omega, e, show 7 + j * 7 + 6 = 7 + (j * 7 + 6) by omega, e]
/-- The world behind a fixup's being written. -/
def setW (w : World) (g o : Nat) (f : Fx) : World :=
  ((((((w.setCell ⟨g, o, none⟩ (.int .u64 f.at_)).setCell ⟨g, o + 1, none⟩ (.int .i64 f.kind)).setCell ⟨g, o + 2, none⟩ (.int .u64 f.tgt)).setCell ⟨g, o + 3, none⟩ (.int .i64 f.ord)).setCell ⟨g, o + 4, none⟩ (.string f.sym)).setCell ⟨g, o + 5, none⟩ (.int .i64 f.add)).setCell ⟨g, o + 6, none⟩ (.bool f.weak)
theorem setW_chg (w : World) (g o : Nat) (f : Fx) : Chg [g] w (setW w g o f) := by
  unfold setW
  exact (((((((Chg.refl _ _).setCell _ _ (.inl (by simp))).setCell _ _ (.inl (by simp))).setCell _ _ (.inl (by simp))).setCell _ _ (.inl (by simp))).setCell _ _ (.inl (by simp))).setCell _ _ (.inl (by simp))).setCell _ _ (.inl (by simp))
theorem FxBuf.set {w : World} {base : Nat} {v : Value} {ls : List Fx} (h : FxBuf w base v ls) {g n cap : Nat} (hv : v = .slice (some ⟨g, 0, none⟩) n cap) (j : Nat) (hj : j < ls.length) (f : Fx) : FxBuf (setW w g (j * 7) f) base v (ls.set j f) := by
  obtain ⟨hl, hx⟩ := h
  rcases hx with ⟨rfl, h0⟩ | ⟨g', cap', cur, hv', hb, hg, hnc, hcm, hcs, htake⟩
  · omega
  · rw [hv'] at hv
    cases hv
    subst hv'
    have h7 := heap_setCell (heap_setCell (heap_setCell (heap_setCell (heap_setCell (heap_setCell (heap_setCell hg (j * 7) (.int .u64 f.at_)) (j * 7 + 1) (.int .i64 f.kind)) (j * 7 + 2) (.int .u64 f.tgt)) (j * 7 + 3) (.int .i64 f.ord)) (j * 7 + 4) (.string f.sym)) (j * 7 + 5) (.int .i64 f.add)) (j * 7 + 6) (.bool f.weak)
    refine ⟨by rw [fxV_len], .inr ⟨_, _, _, by rw [List.length_set], hb, h7, by rw [List.length_set]; exact hnc, hcm, by simp [hcs], ?_⟩⟩
    rw [List.length_set, ← fxV_set f ls j hj, ← htake]
    unfold set7
    simp only [Array.toList_setIfInBounds, List.take_set]
/-- A row that is not empty. -/
theorem FxBuf.at {w : World} {base : Nat} {v : Value} {ls : List Fx} (h : FxBuf w base v ls) (hne : ls.length ≠ 0) :
    ∃ g cap, v = .slice (some ⟨g, 0, none⟩) ls.length cap ∧ base ≤ g ∧ ls.length ≤ cap ∧ cap ≤ maxLen ∧ v.ownBlock = some g ∧ (∀ j, w.frozen? ⟨g, j, none⟩ = false) ∧ ∀ j, j < ls.length → ∀ c, c < 7 → w.cell? ⟨g, j * 7 + c, none⟩ = (ls.getD j .zero).cells[c]? := by
  obtain ⟨hl, hv⟩ := h
  rcases hv with ⟨rfl, h0⟩ | ⟨g, cap, cur, rfl, hb, hg, hnc, hcm, hcs, htake⟩
  · exact absurd h0 hne
  · refine ⟨g, cap, rfl, hb, hnc, hcm, rfl, fun j => frozen_of_heap hg j, fun j hj c hc => ?_⟩
    rw [cell_of_heap hg, ← fxV_get ls j c hj hc, ← htake, List.getElem?_take, if_pos (by omega)]
    simp
theorem app_fx {ops : Array Oper} {rest : List Oper} {o : Oper} {a : Act} {Q : Exit → Act → World → Prop} {w : World} (hgd : o.guard = none) (s x : Operand)
    (ho : o.op = .call { callee := .builtin .append, args := #[s, x], argTypes := #[31, 31] }) (base : Nat) (v : Value) (ls : List Fx) (hs : a.eval s = v) (hown : FxBuf w base v ls)
    (q : Nat) (f : Fx) (hx : a.eval x = .slice (some ⟨q, 0, none⟩) 1 1) (hq : w.heap[q]? = some (.cells #[.int .u64 f.at_, .int .i64 f.kind, .int .u64 f.tgt, .int .i64 f.ord, .string f.sym, .int .i64 f.add, .bool f.weak] 53 (0, 0)))
    (hlen : ls.length ≤ 1000000) (hbase : base ≤ w.heap.size)
    (h : ∀ v' w', FxBuf w' base v' (ls ++ [f]) → w.grownBy w' v.ownBlock → wpList Tryz.prog ops Q rest (a.put o.dst v') w') : wpList Tryz.prog ops Q (o :: rest) a w := by
  obtain ⟨i0, hi, hz0, hz1, hz2⟩ := info_parts Tryz.infoFx
  refine wpList_append_own _ hgd s x 31 ho base 53 i0 _ 7 64 Tryz.uFxsF hi hz0 hz1 hz2 rfl (by decide) v ls.length (fxV ls) hs hown ⟨q, 0, none⟩ 1 1 f.cells hx rfl ?_ ?_ (by unfold maxLen; omega) (by omega) hbase ?_
  · intro j u hu
    rw [Addr_add, Nat.zero_add, cell_of_heap hq]
    simpa [Fx.cells] using hu
  · intro u hu
    simp only [Fx.cells, List.mem_cons, List.not_mem_nil, or_false] at hu
    rcases hu with rfl | rfl | rfl | rfl | rfl | rfl | rfl <;> rfl
  · intro v' w' h1 h2 _
    refine h v' w' ?_ h2
    unfold FxBuf
    rw [fxV_snoc, List.length_append]
    exact h1
end Go.Proofs.YtkomocgodljecaaGreatDoor
/- slices.SortFunc, slices.Clone, slices.Equal at a row of fixups: the library's layings (made by the kit's tool lay-plain). -/
namespace Go.Proofs
open Go.Shelf
def Tryz.sortFx_ren : Go.Shelf.Ren := ⟨fun | 6 => 64 | 15 => 78 | 14 => 77 | 28 => 108 | 29 => 109 | 20 => 100 | 21 => 101 | 22 => 102 | 23 => 103 | 24 => 104 | 25 => 105 | 26 => 106 | 27 => 107 | 46 => 121 | 47 => 122 | 48 => 123 | 49 => 124 | 50 => 125 | 57 => 134 | n => n, fun | 22 => 31 | 24 => 53 | 25 => 83 | 3 => 3 | 39 => 77 | 0 => 0 | 53 => 23 | 55 => 26 | 4 => 4 | 46 => 130 | 45 => 129 | 50 => 134 | 5 => 5 | 9 => 9 | 66 => 149 | 70 => 152 | 76 => 168 | 77 => 169 | n => n, fun | n => n⟩
theorem Tryz.sortFx : Go.Proofs.SlLaysF0.n6 Tryz.prog Tryz.sortFx_ren := {
  mixed := by kernel_rfl
  f6 := ⟨Tryz.f64.name, by decide, Tryz.func64.trans (congrArg some (by kernel_rfl))⟩
  f14 := ⟨Tryz.f77.name, by decide, Tryz.func77.trans (congrArg some (by kernel_rfl))⟩
  f15 := Tryz.func78.trans (congrArg some (by kernel_rfl))
  f20 := ⟨Tryz.f100.name, by decide, Tryz.func100.trans (congrArg some (by kernel_rfl))⟩
  f21 := ⟨Tryz.f101.name, by decide, Tryz.func101.trans (congrArg some (by kernel_rfl))⟩
  f22 := ⟨Tryz.f102.name, by decide, Tryz.func102.trans (congrArg some (by kernel_rfl))⟩
  f23 := ⟨Tryz.f103.name, by decide, Tryz.func103.trans (congrArg some (by kernel_rfl))⟩
  f24 := ⟨Tryz.f104.name, by decide, Tryz.func104.trans (congrArg some (by kernel_rfl))⟩
  f25 := ⟨Tryz.f105.name, by decide, Tryz.func105.trans (congrArg some (by kernel_rfl))⟩
  f26 := ⟨Tryz.f106.name, by decide, Tryz.func106.trans (congrArg some (by kernel_rfl))⟩
  f27 := ⟨Tryz.f107.name, by decide, Tryz.func107.trans (congrArg some (by kernel_rfl))⟩
  f28 := Tryz.func108.trans (congrArg some (by kernel_rfl))
  f29 := Tryz.func109.trans (congrArg some (by kernel_rfl))
  f46 := ⟨Tryz.f121.name, by decide, Tryz.func121.trans (congrArg some (by kernel_rfl))⟩
  f47 := Tryz.func122.trans (congrArg some (by kernel_rfl))
  f48 := Tryz.func123.trans (congrArg some (by kernel_rfl))
  f49 := ⟨Tryz.f124.name, by decide, Tryz.func124.trans (congrArg some (by kernel_rfl))⟩
  f50 := ⟨Tryz.f125.name, by decide, Tryz.func125.trans (congrArg some (by kernel_rfl))⟩
  f57 := ⟨Tryz.f134.name, by decide, Tryz.func134.trans (congrArg some (by kernel_rfl))⟩
  t0 := Tryz.underlying0
  a0 := Tryz.isAgg0
  z0 := Tryz.sizeOf0
  v0 := Tryz.zeroValue0
  t3 := Tryz.underlying3
  a3 := Tryz.isAgg3
  z3 := Tryz.sizeOf3
  v3 := Tryz.zeroValue3
  t4 := Tryz.underlying4
  a4 := Tryz.isAgg4
  z4 := Tryz.sizeOf4
  v4 := Tryz.zeroValue4
  t5 := Tryz.underlying5
  a5 := Tryz.isAgg5
  z5 := Tryz.sizeOf5
  v5 := Tryz.zeroValue5
  t9 := Tryz.underlying9
  a9 := Tryz.isAgg9
  z9 := Tryz.sizeOf9
  v9 := Tryz.zeroValue9
  t22 := Tryz.underlying31
  a22 := Tryz.isAgg31
  z22 := Tryz.sizeOf31
  v22 := Tryz.zeroValue31
  t25 := Tryz.underlying83
  a25 := Tryz.isAgg83
  z25 := Tryz.sizeOf83
  v25 := Tryz.zeroValue83
  t39 := Tryz.underlying77
  a39 := Tryz.isAgg77
  z39 := Tryz.sizeOf77
  v39 := Tryz.zeroValue77
  t45 := Tryz.underlying129
  a45 := Tryz.isAgg129
  z45 := Tryz.sizeOf129
  v45 := Tryz.zeroValue129
  t46 := Tryz.underlying130
  a46 := Tryz.isAgg130
  z46 := Tryz.sizeOf130
  v46 := Tryz.zeroValue130
  t50 := Tryz.underlying134
  a50 := Tryz.isAgg134
  z50 := Tryz.sizeOf134
  v50 := Tryz.zeroValue134
  t53 := Tryz.underlying23
  a53 := Tryz.isAgg23
  z53 := Tryz.sizeOf23
  v53 := Tryz.zeroValue23
  t55 := Tryz.underlying26
  a55 := Tryz.isAgg26
  z55 := Tryz.sizeOf26
  v55 := Tryz.zeroValue26
  t66 := Tryz.underlying149
  a66 := Tryz.isAgg149
  z66 := Tryz.sizeOf149
  v66 := Tryz.zeroValue149
  t70 := Tryz.underlying152
  a70 := Tryz.isAgg152
  z70 := Tryz.sizeOf152
  v70 := Tryz.zeroValue152
  t76 := Tryz.underlying168
  a76 := Tryz.isAgg168
  z76 := Tryz.sizeOf168
  v76 := Tryz.zeroValue168
  t77 := Tryz.underlying169
  a77 := Tryz.isAgg169
  z77 := Tryz.sizeOf169
  v77 := Tryz.zeroValue169 }
end Go.Proofs
