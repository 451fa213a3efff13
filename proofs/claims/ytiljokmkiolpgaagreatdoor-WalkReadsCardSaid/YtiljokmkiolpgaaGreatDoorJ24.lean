/- Lemmas, laid together: part 24 of 42. Conditions: none but each lemma's own. -/
import Derived.Test.YtiljokmkiolpgaaGreatDoorJ23
import Derived.Test.YtiljokmkiolpgaaGreatDoorJ17
import Derived.Test.YtiljokmkiolpgaaGreatDoorJ13
import Derived.Test.YtiljokmkiolpgaaGreatDoorJ3
import Derived.Test.YtiljokmkiolpgaaGreatDoorJ1
namespace Go.Proofs.YtiljokmkiolpgaaGreatDoor
open Go.RowKit
set_option maxRecDepth 100000
def BegOk (s : StP) : Prop := 0 ≤ s.seg ∧ s.begins.length ≤ 65535 ∧ ∀ b ∈ s.begins, -1 ≤ b ∧ b < 65536
theorem begC_in (B : List UInt8) (page st : Int) (hp : page ≤ 65536) : ∀ (n p : Nat) (acc l : List Int), begC B page st n p acc = .ok l → (∀ b ∈ acc, -1 ≤ b ∧ b < 65536) → l.length = acc.length + n ∧ ∀ b ∈ l, -1 ≤ b ∧ b < 65536 := by
 intro n
 induction n with
 | zero => intro p acc l h hA; injection h with h; subst h; exact ⟨rfl, hA⟩
 | succ n ih =>
  intro p acc l h hA
  have hs : ∀ z : Int, -1 ≤ z ∧ z < 65536 → ∀ b ∈ acc ++ [z], -1 ≤ b ∧ b < 65536 := fun z hz b hb => by
   rcases List.mem_append.1 hb with hb | hb
   ·exact hA b hb
   ·rw [List.mem_singleton] at hb
    rw [hb]; exact hz
  unfold begC at h
  split at h
  ·split at h
   ·obtain ⟨h1, h2⟩ := ih _ _ l h (hs _ ⟨by omega, by omega⟩)
    exact ⟨by rw [h1, List.length_append, List.length_singleton]; omega, h2⟩
   ·split at h
    ·rename_i h3
     obtain ⟨h1, h2⟩ := ih _ _ l h (hs _ ⟨by omega, by omega⟩)
     exact ⟨by rw [h1, List.length_append, List.length_singleton]; omega, h2⟩
    ·cases h
  ·cases h
theorem startC_in {B : List UInt8} {ls : List Seg} {i q : Nat} {s : StP} (h : startC B ls i q = .ok s) : BegOk s := by
 unfold startC at h
 split at h
 ·split at h
  ·split at h
   ·split at h
    ·generalize hb : begC B (WN B (q + 4) 2 : Nat) (strideF (WN B (q + 6) 2 : Nat)) (WN B (q + 20) 2) (q + 22) [] = r at h
     cases r with
     | bad e => cases h
     | ok l =>
      injection h with h
      subst h
      have h1 := WN_lt B (q + 4) 2
      have h2 := WN_lt B (q + 20) 2
      obtain ⟨h3, h4⟩ := begC_in B _ _ (by omega) _ _ _ _ hb (fun b hb => by cases hb)
      refine ⟨Int.natCast_nonneg i, ?_, h4⟩
      dsimp only
      rw [h3, List.length_nil]
      omega
    ·cases h
   ·cases h
  ·cases h
 ·cases h
theorem stsC_in {B : List UInt8} {ls : List Seg} {q : Nat} : ∀ (n i : Nat) (acc a : List StP), (∀ s ∈ acc, BegOk s) → stsC B ls q n i acc = .ok a → ∀ s ∈ a, BegOk s := by
 intro n
 induction n with
 | zero => intro i acc a hA h; injection h with h; subst h; exact hA
 | succ n ih =>
  intro i acc a hA h
  unfold stsC at h
  split at h
  ·split at h
   ·exact ih (i + 1) acc a hA h
   ·cases hs : startC B ls i (q + WN B (q + 4 + 4 * i) 4) with
    | bad e => rw [hs] at h; cases h
    | ok s =>
     rw [hs] at h
     refine ih (i + 1) (acc ++ [s]) a ?_ h
     intro x hx
     rcases List.mem_append.1 hx with hx | hx
     ·exact hA x hx
     ·rw [List.mem_singleton] at hx
      subst hx
      exact startC_in hs
  ·cases h
theorem startsC_in {B : List UInt8} {ls : List Seg} {q : Nat} {a : List StP} (h : startsC B ls q = .ok a) : ∀ s ∈ a, BegOk s := by
 unfold startsC at h
 split at h
 ·split at h
  ·exact stsC_in _ 0 [] a (fun s hs => by cases hs) h
  ·cases h
 ·cases h
theorem impC_ne (B : List UInt8) (d : Nat) (fm : Int) (names : Nat) : ∀ (n p : Nat) (acc : List Imp) (e : Int), impC B d fm names n p acc = .bad e → e ≠ 0 := by
 intro n
 induction n with
 | zero => intro p acc e h; cases h
 | succ n ih =>
  intro p acc e h
  rw [impC_succ] at h
  split at h
  ·split at h
   ·split at h
    ·injection h with h; subst h; decide
    ·exact ih _ _ e h
   ·injection h with h; subst h; decide
  ·injection h with h; subst h; decide
theorem readC_in {B : List UInt8} {ls : List Seg} {d : Nat} : (∀ c, readC B ls d = .ok c → ∀ s ∈ c.1, BegOk s) ∧ ∀ e, readC B ls d = .bad e → e ≠ 0 := by
 constructor
 ·intro c h
  unfold readC at h
  split at h
  case isFalse => cases h
  split at h
  case isFalse => cases h
  split at h
  case isFalse => cases h
  split at h
  case isFalse => cases h
  cases hs : startsC B ls (WN B 4 4) with
  | bad e => rw [hs] at h; cases h
  | ok s =>
   rw [hs] at h
   change (ChR.then (impC B d (WN B 20 4 : Nat) (WN B 12 4) (WN B 16 4) (WN B 8 4) []) fun l => .ok (s, l)) = _ at h
   generalize impC B d (WN B 20 4 : Nat) (WN B 12 4) (WN B 16 4) (WN B 8 4) [] = r at h
   cases r with
   | bad e => cases h
   | ok l =>
    injection h with h
    subst h
    exact startsC_in hs
 ·intro e h
  unfold readC at h
  split at h
  case isFalse => injection h with h; subst h; decide
  split at h
  case isFalse => injection h with h; subst h; decide
  split at h
  case isFalse => injection h with h; subst h; decide
  split at h
  case isFalse => injection h with h; subst h; decide
  cases hs : startsC B ls (WN B 4 4) with
  | bad q =>
   rw [hs] at h
   injection h with h
   subst h
   exact startsC_ne hs
  | ok s =>
   rw [hs] at h
   change (ChR.then (impC B d (WN B 20 4 : Nat) (WN B 12 4) (WN B 16 4) (WN B 8 4) []) fun l => .ok (s, l)) = _ at h
   cases hi : impC B d (WN B 20 4 : Nat) (WN B 12 4) (WN B 16 4) (WN B 8 4) [] with
   | bad q =>
    rw [hi] at h
    injection h with h
    subst h
    exact impC_ne B d _ _ _ _ _ _ hi
   | ok l => rw [hi] at h; cases h
def HeadOk (ls : List Seg) (p : List StP × List Imp) : Prop := ∀ i, i < p.1.length → StOk ls (p.1.getD i .zero) ∧ BegOk (p.1.getD i .zero)
theorem readC_head {B : List UInt8} {ls : List Seg} {d : Nat} {p : List StP × List Imp} (h : readC B ls d = .ok p) : HeadOk ls p := by
 intro i hi
 have hm : p.1.getD i .zero ∈ p.1 := by
  rw [List.getD_eq_getElem?_getD, List.getElem?_eq_getElem hi]
  exact List.getElem_mem hi
 exact ⟨(readC_up h).2 _ hm, readC_in.1 p h _ hm⟩
namespace Lay
variable {α : Type} {L : Lay α} {P : Program} {T : TypeId}
theorem armAl (hT : Ty L P T) {o : Oper} {a : Act} {w : World} {K : Act → World → Prop} {Q : Exit → Act → World → Prop} {tm : Nat → Option Bool} (hgd : o.guard = none) (ho : o.op = .alloc T)
  (h : ∀ W b, b = w.heap.size → Chg [] w W → L.Box W b L.d → K (a.put o.dst (.pointer (some ⟨b, 0, none⟩))) W) : if Region.wanted o tm = true then Oper.wp P o a w K Q else K (a.put o.dst undef) w := by
 rw [if_pos (by simp [Region.wanted, hgd])]
 unfold Oper.wp execOp
 have := h _ _ rfl ((Chg.refl [] w).alloc _) (Box.of_alloc (L := L) w L.d T)
 simp [ho, Instr.alloc, run_zero hT, newVar, newRow, Value.cells]
 exact this
theorem armSt (hT : Ty L P T) {o : Oper} {a : Act} {w : World} {K : Act → World → Prop} {Q : Exit → Act → World → Prop} {tm : Nat → Option Bool} (hgd : o.guard = none) (p s : Operand) (ho : o.op = .store T p s) {b : Nat} {y : α} (hp : a.eval p = .pointer (some ⟨b, 0, none⟩)) (x : α) (hs : a.eval s = .agg (L.f x).toArray) (hb : L.Box w b y)
  (h : ∀ W, Chg [b] w W → L.Box W b x → K (a.put o.dst undef) W) : if Region.wanted o tm = true then Oper.wp P o a w K Q else K (a.put o.dst undef) w := by
 rw [if_pos (by simp [Region.wanted, hgd])]
 unfold Oper.wp execOp
 have := h _ (setW_chg b (L.f x) w 0) (hb.put x)
 have hr := run_storeCells (P := P) (g := b) (L.f x) w 0 0 (L.one x) (fun c hc => by
  have := hb.in c (by rw [← L.len x]; exact hc)
  rw [Nat.zero_add] at this ⊢
  rw [this]
  exact ⟨_, List.getElem?_eq_getElem (by rw [L.len]; rw [L.len] at hc; exact hc)⟩) hb.frozen
 simp [ho, Instr.storeAt, Instr.sureAddr, hp, hs, storeVar, run_size hT, Value.cells, L.len, hr]
 exact this
end Lay
end Go.Proofs.YtiljokmkiolpgaaGreatDoor
