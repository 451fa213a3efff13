/- An image's lowest address: image.Low and the document's. -/
import Derived.Test.YtpnldfinobnpoaaGreatDoorRecs
import Derived.Test.YtpnldfinobnpoaaGreatDoorOps
import Derived.Test.YtpnldfinobnpoaaGreatDoorProg
import Derived.Test.YtpnldfinobnpoaaGreatDoorReg
import Derived.Deep.CutRange
import Derived.StillTailTactics
import Derived.Handy
namespace Go.Proofs.YtpnldfinobnpoaaGreatDoor
open Go.RowKit
set_option maxRecDepth 100000

/-- The place of the first one of which p is true. -/
def idx {α : Type} (p : α → Bool) : List α → Option Nat
  | [] => none
  | x :: r => if p x then some 0 else (idx p r).map (· + 1)
theorem idx_some {α : Type} {p : α → Bool} {d : α} : ∀ {l : List α} {k : Nat}, k < l.length → p (l.getD k d) = true → (∀ j, j < k → p (l.getD j d) = false) → idx p l = some k
  | [], _, h, _, _ => by simp at h
  | x :: r, 0, _, h, _ => by
    unfold idx
    rw [if_pos (by simpa using h)]
  | x :: r, k + 1, hk, h, hn => by
    have h0 := hn 0 (by omega)
    have ih := idx_some (p := p) (d := d) (l := r) (k := k) (by simpa using hk) (by simpa using h) (fun j hj => by simpa using hn (j + 1) (by omega))
    unfold idx
    rw [if_neg (by simpa using h0), ih]
    rfl
theorem idx_none {α : Type} {p : α → Bool} {d : α} : ∀ {l : List α}, (∀ j, j < l.length → p (l.getD j d) = false) → idx p l = none
  | [], _ => rfl
  | x :: r, hn => by
    have h0 := hn 0 (by simp)
    have ih := idx_none (p := p) (d := d) (l := r) (fun j hj => by simpa using hn (j + 1) (by simpa using hj))
    unfold idx
    rw [if_neg (by simpa using h0), ih]
    rfl
theorem idx_lt {α : Type} {p : α → Bool} : ∀ {l : List α} {k : Nat}, idx p l = some k → k < l.length
  | [], _, h => by cases h
  | x :: r, k, h => by
    unfold idx at h
    split at h
    · cases h; simp
    · cases hi : idx p r with
      | none => rw [hi] at h; cases h
      | some m =>
        rw [hi] at h
        cases h
        have := idx_lt hi
        simpa using this
def idxI (o : Option Nat) : Int := match o with | some k => k | none => -1
/-- Is a segment not laid? -/
def holeS (s : Seg) : Bool := decide (s.prot = 0) && decide (s.fsize = 0)
/-- The lowest address. -/
def lowS (ls : List Seg) : Int := match idx (fun s => !holeS s) ls with | some k => (ls.getD k .zero).addr | none => 0

theorem hole_any (s : Seg) (w : World) : Calls Tryz.prog 55 #[s.v] w fun e w' => e = .returned (.bool (holeS s)) ∧ Chg [] w w' := by
  unfold holeS
  by_cases hp : s.prot = 0
  · rw [hp, decide_eq_true rfl, Bool.true_and]
    unfold Seg.v
    rw [hp]
    clear hp
    go_enter Tryz.func55, Tryz.ntmps55
    go_wp2
    go_ret
    exact ⟨rfl, (Chg.refl _ _).alloc _⟩
  · have d1 : decide (s.prot = 0) = false := by simpa using hp
    have d2 : (s.prot == 0) = false := by simpa using hp
    rw [d1, Bool.false_and]
    clear hp
    go_enter Tryz.func55, Tryz.ntmps55
    go_wp2
    go_ret
    exact ⟨rfl, (Chg.refl _ _).alloc _⟩
theorem first1_any (s : Seg) (w : World) : Calls Tryz.prog 144 #[s.v] w fun e w' => e = .returned (.bool (!holeS s)) ∧ Chg [] w w' := by
  have HH := Lib.hid (hole_any s)
  generalize holeS s = b at *
  go_enter Tryz.func144, Tryz.ntmps144
  go_wp2_with fail
  refine (HH.out _).mono ?_
  rintro e w' ⟨rfl, hc⟩
  have Hc := Lib.hid hc
  clear hc
  go_wp2
  go_ret
  exact ⟨rfl, ((Chg.refl _ _).alloc _).then Hc.out⟩
set_option maxHeartbeats 1000000 in
theorem idxFirst_any (ls : List Seg) (v : Value) (w : World) (rd : segL.Rd w v ls) :
    Calls Tryz.prog 53 #[v, .func (.func 144) #[] #[]] w fun e w' => e = .returned (.int .i64 (idxI (idx (fun s => !holeS s) ls))) ∧ Chg [] w w' := by
  obtain ⟨a, cap, rfl, hc1, hc2⟩ := rd.shape
  have HR := Lib.hid rd
  clear rd
  go_enter Tryz.func53, Tryz.ntmps53
  go_wp2_with fail
  go_loopw [8] (fun s8 wr => ∃ k : Nat, k ≤ ls.length ∧ s8 = .int .i64 (k : Int) ∧ (∀ j, j < k → (!holeS (ls.getD j .zero)) = false) ∧ Chg [] w wr) (fun s8 _ => ls.length - (intOf s8).toNat)
  case atStart => exact ⟨0, Nat.zero_le _, rfl, fun _ h => absurd h (Nat.not_lt_zero _), Chg.refl _ _⟩
  case round =>
    obtain ⟨k, hk, rfl, hno, hch⟩ := hrel
    have Hno := Lib.hid hno
    have Hch := Lib.hid hch
    clear hno hch
    by_cases hlt : k < ls.length
    · obtain ⟨b, off, rfl, hb, hcell⟩ := HR.out.at (by omega)
      have hI : segL.In w b (off + k * 7) (ls.getD k .zero) := hcell k hlt
      obtain ⟨s, hs⟩ : ∃ s, s = ls.getD k .zero := ⟨_, rfl⟩
      rw [← hs] at hI
      obtain ⟨x0, x1, x2, x3, x4, x5, x6⟩ := Seg.at (hI.frame Hch.out)
      clear hI hcell hb
      have Hs := Lib.hid hs
      clear hs
      have HF := Lib.hid (first1_any s)
      obtain ⟨q, hq⟩ : ∃ q, q = !holeS s := ⟨_, rfl⟩
      rw [← hq] at HF
      go_wp2_with fail
      refine (HF.out _).mono ?_
      rintro e w' ⟨rfl, hc⟩
      have HC := Lib.hid (Hch.out.then hc)
      clear hc
      cases q with
      | true =>
        have HE : Hid (idx (fun s => !holeS s) ls = some k) := Lib.hid (by rw [Hs.out] at hq; exact idx_some hlt hq.symm (fun j hj => Hno.out j hj))
        clear hq
        go_wp2
        go_ret
        exact ⟨by rw [HE.out]; rfl, HC.out⟩
      | false =>
        have Hq := Lib.hid hq
        clear hq
        go_wp2
        go_roundw
        case rel =>
          refine ⟨k + 1, hlt, by go_num, fun j hj => ?_, HC.out⟩
          by_cases e : j = k
          · subst e; rw [← Hs.out]; exact Hq.out.symm
          · exact Hno.out j (by omega)
        case measure => simp [intOf]; omega
    · have HE : Hid (idx (fun s => !holeS s) ls = none) := Lib.hid (idx_none (fun j hj => Hno.out j (by omega)))
      go_wp2
      go_ret
      exact ⟨by rw [HE.out]; rfl, Hch.out⟩
theorem Tryz.tImg : Lay.Ty imgL Tryz.prog 30 := Lay.Ty.mk' (by kernel_rfl) (by kernel_rfl)
theorem first_any (m : Img) (ls : List Seg) (w : World) (rd : segL.Rd w m.segs.v ls) :
    Calls Tryz.prog 123 #[imgL.val m] w fun e w' => e = .returned (.int .i64 (idxI (idx (fun s => !holeS s) ls))) ∧ Chg [] w w' := by
  have Rd := Lib.hid rd
  clear rd
  go_enter Tryz.func123, Tryz.ntmps123
  go_wp2_with ((with_reducible refine Lay.bxL (L := imgL) 30 m ?_ ?_); exact rfl; intro W bm hbm hcW hbox; replace hbm := Lib.hid hbm; replace hcW := Lib.hid hcW; replace hbox := Lib.hid hbox; refine Hid.out ?_)
  refine Lib.hid ?_
  have x4 := Img.c_segs hbox.out
  clear hbm
  go_wp2_with fail
  refine (idxFirst_any ls _ _ (Rd.out.frame hcW.out)).mono ?_
  rintro e w' ⟨rfl, hc⟩
  have Hc := Lib.hid hc
  clear hc
  go_wp2
  go_ret
  exact ⟨rfl, hcW.out.then Hc.out⟩
theorem low_any (m : Img) (ls : List Seg) (w : World) (rd : segL.Rd w m.segs.v ls) :
    Calls Tryz.prog 94 #[imgL.val m] w fun e w' => e = .returned (.int .u64 (lowS ls)) ∧ Chg [] w w' := by
  have Rd := Lib.hid rd
  clear rd
  have HF := Lib.hid (first_any m ls)
  cases hi : idx (fun s => !holeS s) ls with
  | none =>
    have hL : lowS ls = 0 := by simp [lowS, hi]
    rw [hi] at HF
    rw [hL]
    clear hi hL
    unfold idxI at HF
    go_enter Tryz.func94, Tryz.ntmps94
    go_wp2_with ((with_reducible refine Lay.bxL (L := imgL) 30 m ?_ ?_); exact rfl; intro W bm hbm hcW hbox; replace hbm := Lib.hid hbm; replace hcW := Lib.hid hcW; replace hbox := Lib.hid hbox; refine Hid.out ?_)
    refine Lib.hid ?_
    clear hbm
    go_wp2_with ((with_reducible refine Lay.ldL Tryz.tImg m (hbox.out.in) ?_ ?_); exact rfl; refine Hid.out ?_)
    refine Lib.hid ?_
    go_wp2_with fail
    refine (HF.out _ (Rd.out.frame hcW.out)).mono ?_
    rintro e w' ⟨rfl, hc⟩
    have Hc := Lib.hid hc
    clear hc
    go_wp2
    go_ret
    exact ⟨rfl, hcW.out.then Hc.out⟩
  | some k =>
    have hL : lowS ls = (ls.getD k .zero).addr := by simp [lowS, hi]
    have hk := idx_lt hi
    rw [hi] at HF
    rw [hL]
    clear hi hL
    unfold idxI at HF
    obtain ⟨A, hA⟩ : ∃ A, A = (ls.getD k .zero).addr := ⟨_, rfl⟩
    rw [← hA]
    go_enter Tryz.func94, Tryz.ntmps94
    go_wp2_with ((with_reducible refine Lay.bxL (L := imgL) 30 m ?_ ?_); exact rfl; intro W bm hbm hcW hbox; replace hbm := Lib.hid hbm; replace hcW := Lib.hid hcW; replace hbox := Lib.hid hbox; refine Hid.out ?_)
    refine Lib.hid ?_
    clear hbm
    go_wp2_with ((with_reducible refine Lay.ldL Tryz.tImg m (hbox.out.in) ?_ ?_); exact rfl; refine Hid.out ?_)
    refine Lib.hid ?_
    go_wp2_with fail
    refine (HF.out _ (Rd.out.frame hcW.out)).mono ?_
    rintro e w' ⟨rfl, hc⟩
    have Hc := Lib.hid hc
    clear hc
    have x4 := Img.c_segs (hbox.out.frame Hc.out)
    obtain ⟨a, cap, hv, hc1, hc2⟩ := Rd.out.shape
    have rd2 := (Rd.out.frame hcW.out).frame Hc.out
    rw [hv] at rd2
    unfold SlV.v at hv
    rw [hv] at x4
    obtain ⟨b, off, rfl, hb, hcell⟩ := rd2.at (by omega)
    have hI : segL.In w' b (off + k * 7) (ls.getD k .zero) := hcell k hk
    obtain ⟨_, x1, _⟩ := Seg.at hI
    rw [← hA] at x1
    clear hI hcell rd2 hb hv hA
    have hneg : ¬ (k : Int) < 0 := by omega
    go_wp2
    go_ret
    exact ⟨rfl, hcW.out.then Hc.out⟩
end Go.Proofs.YtpnldfinobnpoaaGreatDoor
