/- slices.IndexFunc and DeleteFunc of fixups, by Merge's closure. -/
import Derived.Test.YtgmlcmmphhmogaaDm3
namespace Go.Proofs.Ytgmlcmmphhmogaa
open Go.RowKit
set_option maxRecDepth 100000

def delP (on : Bool) (f : Fx) : Bool := on && !weakB f
def idxF (p : Fx → Bool) : List Fx → Int
  | [] => -1
  | x :: r => if p x then 0 else if idxF p r = -1 then -1 else idxF p r + 1
theorem idxF_hit (p : Fx → Bool) : ∀ (l : List Fx) (k : Nat), k < l.length → (∀ j, j < k → p (l.getD j .zero) = false) → p (l.getD k .zero) = true → idxF p l = k
  | [], k, h, _, _ => by simp at h
  | x :: r, 0, _, _, h => by
    have : p x = true := h
    unfold idxF
    rw [if_pos this]
    rfl
  | x :: r, k + 1, hk, h, h2 => by
    have h0 : p x = false := h 0 (by omega)
    have ih := idxF_hit p r k (by simpa using hk) (fun j hj => h (j + 1) (by omega)) h2
    unfold idxF
    rw [if_neg (by rw [h0]; decide), ih, if_neg (by omega)]
    omega
theorem idxF_none (p : Fx → Bool) : ∀ (l : List Fx), (∀ j, j < l.length → p (l.getD j .zero) = false) → idxF p l = -1
  | [], _ => rfl
  | x :: r, h => by
    have h0 : p x = false := h 0 (by simp)
    have ih := idxF_none p r (fun j hj => h (j + 1) (by simpa using hj))
    unfold idxF
    rw [if_neg (by rw [h0]; decide), ih, if_pos rfl]
set_option maxHeartbeats 1000000 in
theorem index_any (ls : List Fx) (v : Value) (w : World) (rd : fxl.Rd w v ls) (on : Bool) (p b : Nat) (z : Int) (hz : on = true → ∀ x ∈ ls, x.at_ = z) (hp : w.cell? ⟨p, 0, none⟩ = some (.map (some b))) (hm : MP w b z on) :
    Calls Try.prog 16 #[v, .func (.func 11) #[] #[.pointer (some ⟨p, 0, none⟩)]] w fun e w' => e = .returned (.int .i64 (idxF (delP on) ls)) ∧ Chg [] w w' := by
  obtain ⟨a, cap, rfl, hc1, hc2⟩ := rd.shape
  have HCL : Hid (∀ k, k < ls.length → ∀ W, Chg [] w W → Calls Try.prog 11 #[fxl.val (ls.getD k .zero), .pointer (some ⟨p, 0, none⟩)] W fun e w' => e = .returned (.bool (delP on (ls.getD k .zero))) ∧ Chg [] W w') := by
    refine Lib.hid ?_
    intro k hk W hW
    refine clos_any _ p b z on (fun h => hz h _ ?_) W (hW.cell hp (by simp)) ?_
    · rw [List.getD_eq_getElem?_getD, List.getElem?_eq_getElem hk]; exact List.getElem_mem hk
    · obtain ⟨c, q, h⟩ := hm
      exact ⟨c, q, hW.heap h (by simp)⟩
  have Rd := Lib.hid rd
  have Hz := Lib.hid hz
  have Hp := Lib.hid hp
  have Hm := Lib.hid hm
  clear rd hz hp hm
  go_enter Try.func16, Try.ntmps16
  go_wp2_with fail
  go_loopw [8] (fun s8 wr => ∃ k : Nat, k ≤ ls.length ∧ s8 = .int .i64 (k : Int) ∧ (∀ j, j < k → delP on (ls.getD j .zero) = false) ∧ Chg [] w wr) (fun s8 _ => ls.length - (intOf s8).toNat)
  case atStart => exact ⟨0, Nat.zero_le _, rfl, fun j h => absurd h (Nat.not_lt_zero _), Chg.refl _ _⟩
  case round =>
    obtain ⟨k, hk, rfl, hno, hch⟩ := hrel
    by_cases hlt : k < ls.length
    · obtain ⟨bb, off, rfl, hb, hcell⟩ := (Rd.out.frame hch).at (by omega)
      have hI : fxl.In wr bb (off + k * 7) (ls.getD k .zero) := hcell k hlt
      have hcl := HCL.out k hlt wr hch
      have h1 := idxF_hit (delP on) ls k hlt hno
      clear hcell
      have hn2 : delP on (ls.getD k .zero) = false → ∀ j, j < k + 1 → delP on (ls.getD j .zero) = false := fun hd j hj => by
        by_cases e : j = k
        · rw [e]; exact hd
        · exact hno j (by omega)
      obtain ⟨x, hx⟩ : ∃ x, x = ls.getD k .zero := ⟨_, rfl⟩
      rw [← hx] at hI hcl h1 hn2
      have HI := Lib.hid hI
      have Hx := Lib.hid hx
      clear hI hx
      cases hd : delP on x with
      | true =>
        rw [hd] at hcl
        have h2 := h1 hd
        have Hcl := Lib.hid hcl
        have H2 := Lib.hid h2
        have Hd := Lib.hid hd
        have Hno := Lib.hid hno
        have Hch := Lib.hid hch
        clear hcl h2 hd hno hch
        clear h1 hn2
        go_wp2_with ((with_reducible refine Lay.ldL Try.tFx x (HI.out) ?_ ?_); exact rfl; refine Hid.out ?_)
        refine Lib.hid ?_
        go_wp2_with fail
        refine (Hcl.out).mono ?_
        rintro e w1 ⟨rfl, hc⟩
        have Hc := Lib.hid hc
        clear hc
        go_wp2
        go_ret
        exact ⟨by rw [H2.out]; rfl, Hch.out.then Hc.out⟩
      | false =>
        rw [hd] at hcl
        have hno2 := hn2 hd
        have Hcl := Lib.hid hcl
        have Hd := Lib.hid hd
        have Hno := Lib.hid hno
        have Hno2 := Lib.hid hno2
        have Hch := Lib.hid hch
        clear hcl hd hno hno2 hch
        clear h1 hn2
        go_wp2_with ((with_reducible refine Lay.ldL Try.tFx x (HI.out) ?_ ?_); exact rfl; refine Hid.out ?_)
        refine Lib.hid ?_
        go_wp2_with fail
        refine (Hcl.out).mono ?_
        rintro e w1 ⟨rfl, hc⟩
        have Hc := Lib.hid hc
        clear hc
        go_wp2
        go_roundw
        case rel => exact ⟨k + 1, hlt, by go_num, Hno2.out, Hch.out.then Hc.out⟩
        case measure => simp [intOf]; omega
    · obtain rfl : k = ls.length := by omega
      have h2 := idxF_none (delP on) ls hno
      have H2 := Lib.hid h2
      have Hno := Lib.hid hno
      have Hch := Lib.hid hch
      clear h2 hno hch
      go_wp2
      go_ret
      exact ⟨by rw [H2.out]; rfl, Hch.out⟩
/-- Nothing is left out. -/
theorem delete_no (ls : List Fx) (base : Nat) (v : Value) (w : World) (hb : FB w base v ls) (on : Bool) (p b : Nat) (z : Int) (hz : on = true → ∀ x ∈ ls, x.at_ = z) (hp : w.cell? ⟨p, 0, none⟩ = some (.map (some b))) (hm : MP w b z on) (hno : ∀ j, j < ls.length → delP on (ls.getD j .zero) = false) :
    Calls Try.prog 10 #[v, .func (.func 11) #[] #[.pointer (some ⟨p, 0, none⟩)]] w fun e w' => (∃ v', e = .returned v' ∧ FB w' base v' ls) ∧ Chg v.ownBlock.toList w w' := by
  have HIX : Hid (Calls Try.prog 16 #[v, .func (.func 11) #[] #[.pointer (some ⟨p, 0, none⟩)]] w fun e w' => e = .returned (.int .i64 (-1)) ∧ Chg [] w w') := by
    refine Lib.hid ?_
    have := index_any ls v w hb.rd on p b z hz hp hm
    rw [idxF_none _ _ hno] at this
    exact this
  have Hb := Lib.hid hb
  have Hz := Lib.hid hz
  have Hp := Lib.hid hp
  have Hm := Lib.hid hm
  have Hno := Lib.hid hno
  clear hb hz hp hm hno
  go_enter Try.func10, Try.ntmps10
  go_wp2_with fail
  refine HIX.out.mono ?_
  rintro e w1 ⟨rfl, hc⟩
  have Hc := Lib.hid hc
  clear hc
  go_wp2
  go_ret
  exact ⟨⟨_, rfl, Hb.out.pure Hc.out⟩, Hc.out.add⟩
end Go.Proofs.Ytgmlcmmphhmogaa
