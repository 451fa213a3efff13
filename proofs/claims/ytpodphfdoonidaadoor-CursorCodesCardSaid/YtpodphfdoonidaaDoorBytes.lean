/- bytes.Clone and the cursor's Bytes; a write behind the cursors leaves them as they were. -/
import Derived.Test.YtpodphfdoonidaaDoorCrow
import Derived.Test.YtpodphfdoonidaaDoorApp
namespace Go.Proofs.YtpodphfdoonidaaDoor
open Go.RowKit
set_option maxRecDepth 100000

theorem Clone_any (v : Value) (l : List UInt8) (w : World) (hv : Rd w v (bytesV l)) (hl : l.length ≤ 140737488355328) :
    Calls Tryd.prog 51 #[v] w fun e w' => ∃ v', e = .returned v' ∧ Buf w' w.heap.size v' l ∧ Chg [] w w' := by
  obtain ⟨a, n, cap, rfl, hn, hnc, hcm, hx⟩ := hv
  rw [bytesV_length] at hn
  subst hn
  cases a with
  | none =>
    have hnil : l = [] := by
      cases l with
      | nil => rfl
      | cons x r => obtain ⟨b, off, h, _⟩ := hx (by simp [bytesV]); cases h
    subst hnil
    exact (Clone_nil _ _ w).mono fun e w' ⟨he, hw⟩ => ⟨_, he, Buf.nil _ _, by rw [← hw]; exact Chg.refl _ _⟩
  | some ad =>
    refine (Clone_some ad _ cap (bytesV l) w (bytesV_length l).symm hl (bytes_one l) ?_).mono fun e w' ⟨v', he, ho, hc⟩ => ⟨v', he, ho, hc⟩
    intro j u hu
    obtain ⟨hj, _⟩ := List.getElem?_eq_some_iff.1 hu
    obtain ⟨b, off, h, hcell⟩ := hx (by intro e; rw [e] at hj; simp at hj)
    cases h
    rw [Addr_add, hcell j hj, hu]
theorem takeL_len_le {w : World} {b : Nat} {s : CS} (h : CurB w b s) (m : Int) : (takeL s m).length ≤ 140737488355328 := by
  have := h.len_le
  cases hc : canTake s m with
  | false => rw [takeL_no hc]; simp
  | true =>
    have h1 := takeL_length h.at_le hc
    obtain ⟨_, h0, h2⟩ := canTake_spec hc
    omega
theorem Bytes_cur (b : Nat) (s : CS) (m : Int) (w : World) (h : CurB w b s) :
    Calls Tryd.prog 32 #[.pointer (some ⟨b, 0, none⟩), .int .i64 m] w fun e w' => ∃ v, e = .returned v ∧ CurB w' b (takeS s m) ∧ Buf w' w.heap.size v (takeL s m) ∧ Chg [b] w w' := by
  have HL := Lib.hid (takeL_len_le h m)
  have H := Lib.hid h
  clear h
  go_enter Tryd.func32, Tryd.ntmps32
  go_wp2_with fail
  refine (take_cur b s m w H.out).mono ?_
  rintro e w1 ⟨v, rfl, hcx, hrd, hch⟩
  have hsz := hch.size
  have Hcx := Lib.hid hcx
  have Hrd := Lib.hid hrd
  have Hch := Lib.hid hch
  clear hcx hrd hch
  go_wp2_with fail
  refine (Clone_any v _ w1 Hrd.out HL.out).mono ?_
  rintro e w2 ⟨v', rfl, hb, hc2⟩
  have HB := Lib.hid (owned_base hb hsz)
  have Hc2 := Lib.hid hc2
  have Hb := Lib.hid hb
  clear hc2 hb
  go_wp2
  go_ret
  exact ⟨_, rfl, Hcx.out.frame Hc2.out, HB.out, Hch.out.then Hc2.out⟩

/-- A write to blocks behind the cursor's own. -/
theorem CurB.far {w w' : World} {b : Nat} {s : CS} (h : CurB w b s) {S : List Nat} (k : Chg S w w') (hS : ∀ i ∈ S, b < i) : CurB w' b s := by
  obtain ⟨a, n, cap, hb, h1, h2, h3, h4, h5, h6⟩ := h
  refine ⟨a, n, cap, k.heap hb (fun hm => by have := hS b hm; omega), h1, h2, h3, h4, h5, fun hn => ?_⟩
  obtain ⟨d, off, c, ha, hdb, hd, hc⟩ := h6 hn
  have hdS : d ∉ S := fun hm => by have := hS d hm; omega
  exact ⟨d, off, c, ha, hdb, k.heap hd hdS, fun j hj => k.cell (hc j hj) hdS⟩
theorem Chg.of_grown {a b : World} {row : Option Nat} (g : a.grownBy b row) : Chg row.toList a b :=
  ⟨g.os, g.tape, g.output, g.size, fun k hk hn => g.block k hk (fun e => hn (by rw [← e]; simp))⟩
theorem Curs.far {w0 w w' : World} {cs : List (Nat × CS)} (h : Curs w0 w cs) {S : List Nat} (k : Chg S w w') (hS : ∀ i ∈ S, w0.heap.size ≤ i ∧ 0 < i ∧ ∀ p ∈ cs, p.1 < i) : Curs w0 w' cs :=
  ⟨h.env.frame k (fun hm => by have := (hS _ hm).2.1; omega), h.chg.trans k (fun i hm hi => by have := (hS _ hm).1; omega), fun p hp => ⟨(h.all p hp).1, (h.all p hp).2.far k (fun i hi => (hS i hi).2.2 p hp)⟩, h.nodup⟩
theorem buf_ne {w : World} {base b : Nat} {v : Value} {l : List UInt8} {s : CS} (h : Buf w base v l) (hb : CurB w b s) : ∀ k, v.ownBlock = some k → k ∉ [b] := by
  intro k hk hm
  rw [List.mem_singleton] at hm
  subst hm
  obtain ⟨_, _, _, hbb, _⟩ := hb
  rcases h.2 with ⟨rfl, _⟩ | ⟨g, cap, cur, rfl, _, hg, _⟩
  · cases hk
  · cases hk
    rw [hg] at hbb
    simp at hbb
end Go.Proofs.YtpodphfdoonidaaDoor
