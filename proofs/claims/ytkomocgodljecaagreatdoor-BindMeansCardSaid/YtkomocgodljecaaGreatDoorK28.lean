/- Lemmas, laid together: part 28 of 41. Conditions: none but each lemma's own. -/
import Derived.Test.YtkomocgodljecaaGreatDoorK27
import Derived.Test.YtkomocgodljecaaGreatDoorK19
/- bind.Decode, of any stream. -/
namespace Go.Proofs.YtkomocgodljecaaGreatDoor
open Go.RowKit
set_option maxRecDepth 100000

theorem ordD_p {nd : Nat} {K : Int} {s s' : BdS} {n : Nat} (h : ordD nd K s n = .ok s') : s'.p = s.p := by
  unfold ordD at h
  split at h
  · cases h
  · split at h
    · cases h
    · cases h; rfl
theorem onD_p {s s' : BdS} {n : Nat} (h : onD s n = .ok s') : s'.p = s.p := by
  unfold onD at h
  split at h
  · cases h; rfl
  · cases h
theorem then_ok {r : BdR} {k : BdS → BdR} {s' : BdS} (h : r.then k = .ok s') : ∃ s, r = .ok s ∧ k s = .ok s' := by
  cases r with
  | ok s => exact ⟨s, rfl, h⟩
  | bad e => cases h
theorem bndD_p (ls : List Seg) (skip : Nat) : ∀ (n : Nat) (s s' : BdS), bndD ls skip n s = .ok s' → s'.p = s.p
  | 0, s, s', h => by cases h; rfl
  | n + 1, s, s', h => by
    unfold bndD at h
    split at h
    · obtain ⟨s1, h1, h2⟩ := then_ok h
      obtain ⟨s2, h3, h4⟩ := then_ok h2
      rw [bndD_p ls skip n s2 s' h4, onD_p h3, onD_p h1]
    · cases h
theorem bindsD_p {ls : List Seg} {s s' : BdS} {n k : Nat} (h : bindsD ls s n k = .ok s') : s'.p = s.p := by
  unfold bindsD at h
  split at h
  · split at h
    · cases h
    · exact bndD_p ls k n s s' h
  · cases h
theorem opD_13 {B : List UInt8} {ls : List Seg} {nd : Nat} {K : Int} {op im : Nat} {s : BdS} (h : 13 ≤ op) : opD B ls nd K op im s = .bad 14 := by
  unfold opD
  rw [if_neg (by omega), if_neg (by omega), if_neg (by omega), if_neg (by omega), if_neg (by omega), if_neg (by omega), if_neg (by omega), if_neg (by omega), if_neg (by omega), if_neg (by omega), if_neg (by omega), if_neg (by omega), if_neg (by omega)]
theorem opD_fwd {B : List UInt8} {ls : List Seg} {nd : Nat} {K : Int} {op im : Nat} {s s' : BdS} (h : opD B ls nd K op im s = .ok s') (hp : s.p ≤ B.length) : s.p ≤ s'.p ∧ s'.p ≤ B.length := by
  have same : s'.p = s.p → s.p ≤ s'.p ∧ s'.p ≤ B.length := fun e => by omega
  have num : ∀ k : BdS → Nat → BdR, (∀ s1 n s', k s1 n = .ok s' → s1.p ≤ B.length → s1.p ≤ s'.p ∧ s'.p ≤ B.length) → numD B s k = .ok s' → s.p ≤ s'.p ∧ s'.p ≤ B.length := fun k hk hn => by
    obtain ⟨n, q, _, h1, _, _, h2⟩ := numD_fwd hn
    have h3 := hk _ _ _ h2 h1
    have : s.p + q ≤ s'.p := h3.1
    omega
  have hc : op = 0 ∨ op = 1 ∨ op = 2 ∨ op = 3 ∨ op = 4 ∨ op = 5 ∨ op = 6 ∨ op = 7 ∨ op = 8 ∨ op = 9 ∨ op = 10 ∨ op = 11 ∨ op = 12 ∨ 13 ≤ op := by omega
  rcases hc with rfl | rfl | rfl | rfl | rfl | rfl | rfl | rfl | rfl | rfl | rfl | rfl | rfl | hc
  · rw [opD_0] at h
    cases h; exact same rfl
  · rw [opD_1] at h
    exact same (ordD_p h)
  · rw [opD_2] at h
    exact num _ (fun s1 n s' h _ => by have := ordD_p h; omega) h
  · rw [opD_3] at h
    split at h
    · cases h
    · split at h
      · cases h; exact same rfl
      · cases h
  · rw [opD_4] at h
    unfold symD at h
    split at h
    · cases h
    · rename_i t ht
      have hl := textD_len ht
      split at h
      · cases h
      · split at h
        · cases h
        · cases h
          show s.p ≤ s.p + t.length + 1 ∧ s.p + t.length + 1 ≤ B.length
          omega
  · rw [opD_5] at h
    cases h; exact same rfl
  · rw [opD_6] at h
    split at h
    · cases h
    · rename_i n q hu
      have hl := svalV_le hu
      rw [List.length_drop] at hl
      cases h
      show s.p ≤ s.p + q ∧ s.p + q ≤ B.length
      omega
  · rw [opD_7] at h
    refine num _ (fun s1 n s' h hp => ?_) h
    split at h
    · cases h; exact ⟨Nat.le_refl _, hp⟩
    · cases h
  · rw [opD_8] at h
    refine num _ (fun s1 n s' h hp => ?_) h
    split at h
    · have := onD_p h; omega
    · cases h
  · rw [opD_9] at h
    exact same (bindsD_p h)
  · rw [opD_10] at h
    exact num _ (fun s1 n s' h _ => by have := bindsD_p h; omega) h
  · rw [opD_11] at h
    exact same (bindsD_p h)
  · rw [opD_12] at h
    refine num _ (fun s1 n s' h hp => ?_) h
    obtain ⟨n2, q, _, h1, _, _, h2⟩ := numD_fwd h
    have h3 : s'.p = s1.p + q := bindsD_p h2
    omega
  · rw [opD_13 hc] at h
    cases h
theorem stepD_fwd {B : List UInt8} {ls : List Seg} {nd : Nat} {K : Int} {s s' : BdS} (h : stepD B ls nd K s = .ok s') (hp : s.p < B.length) : s.p < s'.p ∧ s'.p ≤ B.length := by
  have : s.p + 1 ≤ s'.p ∧ s'.p ≤ B.length := opD_fwd (s := { s with p := s.p + 1 }) h hp
  omega
/-- The function of an opcode. -/
def fnI : Nat → Nat
  | 0 => 48
  | 1 => 49
  | 2 => 50
  | 3 => 51
  | 4 => 52
  | 5 => 53
  | 6 => 54
  | 7 => 55
  | 8 => 56
  | 9 => 57
  | 10 => 58
  | 11 => 59
  | _ => 60
theorem fnI_at (op : Nat) (h : op < 13) : (fnC true)[op]? = some (.func (.func (fnI op)) #[] #[]) ∧ ∀ args W, (callFunc (fnI op) args).run Tryz.prog W = .ok (.enter (fnI op) args) W := by
  have hc : op = 0 ∨ op = 1 ∨ op = 2 ∨ op = 3 ∨ op = 4 ∨ op = 5 ∨ op = 6 ∨ op = 7 ∨ op = 8 ∨ op = 9 ∨ op = 10 ∨ op = 11 ∨ op = 12 := by omega
  rcases hc with rfl | rfl | rfl | rfl | rfl | rfl | rfl | rfl | rfl | rfl | rfl | rfl | rfl
  all_goals exact ⟨rfl, fun args W => by kernel_rfl⟩
theorem op_D {w : World} {B : List UInt8} {m : Img} {kd : Int} {im op : Nat} {s : BdS} {bc b : Nat} {W : World} (h : StD w B m kd (im : Int) s bc b W) (hw : Env w) (hi : im < 16) (ho : op < 13) (hB : B.length ≤ 1099511627776) (hp : s.p ≤ B.length) {ls : List Seg} (hs : SgD w m ls) (hd : m.deps.n ≤ 4611686018427387904) :
    Calls Tryz.prog (fnI op) #[.pointer (some ⟨b, 0, none⟩)] W (OutD w B m kd (im : Int) bc b W (opD B ls m.deps.n kd op im s)) := by
  have hc : op = 0 ∨ op = 1 ∨ op = 2 ∨ op = 3 ∨ op = 4 ∨ op = 5 ∨ op = 6 ∨ op = 7 ∨ op = 8 ∨ op = 9 ∨ op = 10 ∨ op = 11 ∨ op = 12 := by omega
  rcases hc with rfl | rfl | rfl | rfl | rfl | rfl | rfl | rfl | rfl | rfl | rfl | rfl | rfl
  · exact end_D h hw
  · exact ordinal_D h hw hi hd
  · exact ordinalFar_D h hw hd
  · exact special_D h hw hi ls _
  · exact symbol_D h hw hi hB hp
  · exact kinds_D h hw
  · exact addend_D h hw ls _ im
  · exact place_D h hw hi ls hs.rd _
  · exact further_D h hw ls _ im
  · exact one_D h hw hs _ im
  · exact oneFar_D h hw hs _ im
  · exact oneScaled_D h hw hi hs _
  · exact many_D h hw hs _ im
def brdK (bc : Nat) (m : Img) (kd : Int) : Brd := { Brd.zero with c := some ⟨bc, 0, none⟩, m := m, kind := kd, f := { Fx.zero with kind := 2 }, typ := 1 }
theorem brd_buildK (c : Option Addr) (m : Img) (kd : Int) (w : World) : (Instr.build 70 #[(0, .pointer c), (1, imgL.val m), (2, .int .i64 kd), (4, fxl.val { Fx.zero with kind := 2 }), (6, .int .u8 1)]).run Tryz.prog w = .ok (brdL.val { Brd.zero with c := c, m := m, kind := kd, f := { Fx.zero with kind := 2 }, typ := 1 }) w := by kernel_rfl
/-- What Decode hands back. -/
def DecP (w : World) (r : BdR) (e : Ending) (w' : World) : Prop :=
  match r with
  | .ok s => ∃ so : SlV, e = .returned (.tuple #[so.v, .int .i64 0]) ∧ Chg [] w w' ∧ FB w' w.heap.size so.v s.fs
  | .bad q => e = .returned (.tuple #[.slice none 0 0, .int .i64 q]) ∧ Chg [] w w'
theorem decP_ok {w w' : World} {s : BdS} {so : SlV} (h : Chg [] w w') (k : FB w' w.heap.size so.v s.fs) : DecP w (.ok s) (.returned (.tuple #[so.v, .int .i64 0])) w' := ⟨so, rfl, h, k⟩
theorem decP_bad {w w' : World} {q : Int} (h : Chg [] w w') : DecP w (.bad q) (.returned (.tuple #[.slice none 0 0, .int .i64 q])) w' := ⟨rfl, h⟩
end Go.Proofs.YtkomocgodljecaaGreatDoor
