/- bytes.Clone and cursor.New. -/
import Derived.Test.YtkclmknepbbhnaaDoorErr
namespace Go.Proofs.YtkclmknepbbhnaaDoor
open Go.RowKit

theorem Addr_add (b off j : Nat) : (⟨b, off, none⟩ : Addr).add j = ⟨b, off + j, none⟩ := by
  unfold Addr.add; split <;> simp_all

theorem Clone_some (ad : Addr) (n cap : Nat) (xs : List Value) (w : World) (hl : n = xs.length) (hn : n ≤ 140737488355328) (h1 : ∀ u ∈ xs, u.oneCell' = true)
    (hc : ∀ j u, xs[j]? = some u → w.cell? (ad.add j) = some u) :
    Calls Tryd.prog 45 #[.slice (some ad) n cap] w fun e w' => ∃ v, e = .returned v ∧ w'.ownsRow w.heap.size 5 1 v n xs ∧ Chg [] w w' := by
  have hsn := @Lib.run_eql_slice_nil Tryd.prog
  obtain ⟨i0, hi, hz0, hz1, hz2⟩ := info_parts Tryd.infoU8
  have hcx : ∀ j u, xs[j]? = some u → (w.alloc (.cells #[] 5)).cell? (ad.add j) = some u := by
    intro j u hu
    have := hc j u hu
    rw [World.cell?_alloc_lt _ _ _ (World.block_lt_of_cell? _ _ this)]
    exact this
  have HC := Lib.hid hcx
  have HL := Lib.hid hl
  have H1 := Lib.hid h1
  clear hcx hl hc h1
  go_enter Tryd.func45, Tryd.ntmps45
  go_wp2_with (at_builtin; refine wpList_append_own _ rfl _ _ 39 rfl w.heap.size 5 i0 (.int .u8 0) 1 1 Tryd.underlying39 hi hz0 hz1 hz2 rfl (by decide) _ 0 [] rfl (World.ownsRow_made w #[] 0 (Nat.le_refl _) (by unfold maxLen; omega) rfl) ad n cap xs rfl ?c1 ?c2 ?c3 ?c4 ?c5 ?c6 ?_)
  case c1 => rw [HL.out, Nat.mul_one]
  case c2 => exact HC.out
  case c3 => exact H1.out
  case c4 => unfold maxLen; omega
  case c5 => omega
  case c6 => simp
  intro v' w1 hown hgrow _
  have HO := Lib.hid hown
  have HG := Lib.hid hgrow
  clear hown hgrow
  go_wp2
  go_ret
  refine ⟨_, rfl, ?_, ?_⟩
  · have := HO.out
    simpa using this
  · exact ((Chg.refl [] w).alloc _).grown HG.out (by intro k hk; simp [Value.ownBlock] at hk; exact .inr (by omega))

/-- cursor.New: a cursor of a copy, at its beginning. -/
theorem New_cur (v : Value) (l : List UInt8) (big : Bool) (w : World) (hv : Rd w v (bytesV l)) (hl : l.length ≤ 140737488355328) :
    Calls Tryd.prog 21 #[v, .bool big] w fun e w' => ∃ b, e = .returned (.pointer (some ⟨b, 0, none⟩)) ∧ w.heap.size ≤ b ∧ CurB w' b ⟨l, 0, big, false⟩ ∧ Chg [] w w' := by
  obtain ⟨a, n, cap, rfl, hn, hnc, hcm, hx⟩ := hv
  rw [bytesV_length] at hn
  subst hn
  cases a with
  | none =>
    have hnil : l = [] := by
      cases l with
      | nil => rfl
      | cons x r => obtain ⟨b, off, h, _⟩ := hx (by simp [bytesV]); cases h
    subst hnil
    clear hx hnc hcm hl
    go_enter Tryd.func21, Tryd.ntmps21
    go_wp2_with fail
    refine (Clone_nil _ _ w).mono ?_
    rintro e w1 ⟨rfl, rfl⟩
    go_wp2
    go_ret
    refine ⟨_, rfl, Nat.le_refl _, ⟨none, 0, 0, heap_alloc_eq w _, rfl, Nat.le_refl _, Nat.zero_le _, by omega, Nat.le_refl _, fun h => absurd h (by omega)⟩, (Chg.refl _ _).alloc _⟩
  | some ad =>
    have hc : ∀ j u, (bytesV l)[j]? = some u → w.cell? (ad.add j) = some u := by
      intro j u hu
      obtain ⟨hj, _⟩ := List.getElem?_eq_some_iff.1 hu
      obtain ⟨b, off, h, hcell⟩ := hx (by intro e; rw [e] at hj; simp at hj)
      cases h
      rw [Addr_add, hcell j hj, hu]
    have H1 : Hid (∀ u ∈ bytesV l, u.oneCell' = true) := by
      intro u hu
      obtain ⟨x, _, rfl⟩ := List.mem_map.1 hu
      rfl
    have HC := Lib.hid hc
    have HL := Lib.hid hl
    clear hx hc hnc hcm hl
    go_enter Tryd.func21, Tryd.ntmps21
    go_wp2_with fail
    refine (Clone_some ad _ cap (bytesV l) w (bytesV_length l).symm HL.out H1.out HC.out).mono ?_
    rintro e w1 ⟨v, rfl, hown, hchg⟩
    have HO := Lib.hid hown
    have HG := Lib.hid hchg
    have hsz := hchg.size
    obtain ⟨a', n', cap', rfl⟩ : ∃ a n c, v = Value.slice a n c := by
      rcases hown.2 with ⟨rfl, _⟩ | ⟨g, cap', cur, rfl, _⟩
      · exact ⟨_, _, _, rfl⟩
      · exact ⟨_, _, _, rfl⟩
    clear hown hchg
    go_wp2
    go_ret
    refine ⟨_, rfl, hsz, ?_, HG.out.alloc _⟩
    obtain ⟨hxl, hv⟩ := HO.out
    rw [Nat.mul_one] at hxl
    rcases hv with ⟨hv, h0⟩ | ⟨g, cap', cur, hv, hbg, hg, hnc, hcm, hcs, htake⟩
    · cases hv
      refine ⟨none, 0, 0, heap_alloc_eq w1 _, h0.symm, Nat.le_refl _, Nat.zero_le _, by omega, Nat.le_refl _, fun h => absurd h (by omega)⟩
    · cases hv
      have hgl := lt_of_heap hg
      refine ⟨_, _, _, heap_alloc_eq w1 _, rfl, hnc, hcm, HL.out, Nat.zero_le _, fun _ => ⟨g, 0, cur, rfl, by omega, by rw [heap_alloc_lt hgl]; exact hg, fun j hj => ?_⟩⟩
      rw [World.cell?_alloc_lt _ _ _ hgl, Nat.zero_add, cell_of_heap hg]
      have e1 : (cur.toList.take (l.length * 1))[j]? = (bytesV l)[j]? := by rw [htake]
      rw [List.getElem?_take, if_pos (by omega), bytesV_get l j hj] at e1
      simpa using e1
end Go.Proofs.YtkclmknepbbhnaaDoor
