/- says.fix. -/
import Derived.Test.YtpnldfinobnpoaaGreatDoorBind
import Derived.Deep.CutRange
import Derived.StillTailTactics
import Derived.Handy
namespace Go.Proofs.YtpnldfinobnpoaaGreatDoor
open Go.RowKit
set_option maxRecDepth 100000

/-- A record Say. -/
structure Say where
  bind : Bool
  nth : Int
  add : Int
  tgt : Int
  high : Int
  next : Int
def Say.cells (s : Say) : List Value := [.bool s.bind, .int .u64 s.nth, .int .i64 s.add, .int .u64 s.tgt, .int .u64 s.high, .int .i64 s.next]
abbrev Say.v (s : Say) : Value := .agg #[.bool s.bind, .int .u64 s.nth, .int .i64 s.add, .int .u64 s.tgt, .int .u64 s.high, .int .i64 s.next]
def Say.zero : Say := ⟨false, 0, 0, 0, 0, 0⟩
def sayL : Lay Say := ⟨6, Say.cells, Say.zero, fun _ => rfl, by decide, fun x u hu => by
  simp only [Say.cells, List.mem_cons, List.not_mem_nil, or_false] at hu
  rcases hu with rfl | rfl | rfl | rfl | rfl | rfl <;> rfl⟩
theorem Say.at {w : World} {b o : Nat} {s : Say} (h : sayL.In w b o s) : w.cell? ⟨b, o, none⟩ = some (.bool s.bind) ∧ w.cell? ⟨b, o + 1, none⟩ = some (.int .u64 s.nth) ∧ w.cell? ⟨b, o + 2, none⟩ = some (.int .i64 s.add) ∧ w.cell? ⟨b, o + 3, none⟩ = some (.int .u64 s.tgt) ∧ w.cell? ⟨b, o + 4, none⟩ = some (.int .u64 s.high) ∧ w.cell? ⟨b, o + 5, none⟩ = some (.int .i64 s.next) :=
  ⟨h 0 (by decide), h 1 (by decide), h 2 (by decide), h 3 (by decide), h 4 (by decide), h 5 (by decide)⟩
theorem Say.at0 {w : World} {b : Nat} {s : Say} (h : sayL.In w b 0 s) : w.cell? ⟨b, 0, none⟩ = some (.bool s.bind) ∧ w.cell? ⟨b, 1, none⟩ = some (.int .u64 s.nth) ∧ w.cell? ⟨b, 2, none⟩ = some (.int .i64 s.add) ∧ w.cell? ⟨b, 3, none⟩ = some (.int .u64 s.tgt) ∧ w.cell? ⟨b, 4, none⟩ = some (.int .u64 s.high) ∧ w.cell? ⟨b, 5, none⟩ = some (.int .i64 s.next) := by
  obtain ⟨h0, h1, h2, h3, h4, h5⟩ := Say.at h
  simp only [Nat.zero_add] at h1 h2 h3 h4 h5
  exact ⟨h0, h1, h2, h3, h4, h5⟩
theorem Say.boxed (w : World) (s : Say) (T : TypeId) : sayL.In (w.alloc (.cells #[.bool s.bind, .int .u64 s.nth, .int .i64 s.add, .int .u64 s.tgt, .int .u64 s.high, .int .i64 s.next] T)) w.heap.size 0 s := fun c _ => by
  rw [cell_of_heap (heap_alloc_eq w _), Nat.zero_add]
  exact List.getElem?_toArray ..
/-- A record in a block of its own: made, written, a field written. -/
theorem Say.box (w : World) (s : Say) (T : TypeId) : sayL.Box (w.alloc (.cells #[.bool s.bind, .int .u64 s.nth, .int .i64 s.add, .int .u64 s.tgt, .int .u64 s.high, .int .i64 s.next] T)) w.heap.size s := Lay.Box.of_alloc (L := sayL) w s T
theorem Say.boxAt (w : World) (s : Say) (T : TypeId) {b : Nat} (hb : b = w.heap.size) : sayL.Box (w.alloc (.cells #[.bool s.bind, .int .u64 s.nth, .int .i64 s.add, .int .u64 s.tgt, .int .u64 s.high, .int .i64 s.next] T)) b s := by rw [hb]; exact Say.box w s T
theorem Say.put0 {w : World} {g : Nat} {y : Say} (h : sayL.Box w g y) (s : Say) : sayL.Box ((((((w.setCell ⟨g, 0, none⟩ (.bool s.bind)).setCell ⟨g, 1, none⟩ (.int .u64 s.nth)).setCell ⟨g, 2, none⟩ (.int .i64 s.add)).setCell ⟨g, 3, none⟩ (.int .u64 s.tgt)).setCell ⟨g, 4, none⟩ (.int .u64 s.high)).setCell ⟨g, 5, none⟩ (.int .i64 s.next)) g s := Lay.Box.put h s
theorem Say.chg0 (w : World) (g : Nat) (s : Say) : Chg [g] w ((((((w.setCell ⟨g, 0, none⟩ (.bool s.bind)).setCell ⟨g, 1, none⟩ (.int .u64 s.nth)).setCell ⟨g, 2, none⟩ (.int .i64 s.add)).setCell ⟨g, 3, none⟩ (.int .u64 s.tgt)).setCell ⟨g, 4, none⟩ (.int .u64 s.high)).setCell ⟨g, 5, none⟩ (.int .i64 s.next)) := Lay.setW_chg g s.cells w 0
theorem Say.set_bind {w : World} {g : Nat} {s : Say} (h : sayL.Box w g s) (x : Bool) : sayL.Box (w.setCell ⟨g, 0, none⟩ (.bool x)) g { s with bind := x } := Lay.Box.set h 0 _ _ rfl
theorem Say.set_nth {w : World} {g : Nat} {s : Say} (h : sayL.Box w g s) (x : Int) : sayL.Box (w.setCell ⟨g, 1, none⟩ (.int .u64 x)) g { s with nth := x } := Lay.Box.set h 1 _ _ rfl
theorem Say.set_add {w : World} {g : Nat} {s : Say} (h : sayL.Box w g s) (x : Int) : sayL.Box (w.setCell ⟨g, 2, none⟩ (.int .i64 x)) g { s with add := x } := Lay.Box.set h 2 _ _ rfl
theorem Say.set_tgt {w : World} {g : Nat} {s : Say} (h : sayL.Box w g s) (x : Int) : sayL.Box (w.setCell ⟨g, 3, none⟩ (.int .u64 x)) g { s with tgt := x } := Lay.Box.set h 3 _ _ rfl
theorem Say.set_high {w : World} {g : Nat} {s : Say} (h : sayL.Box w g s) (x : Int) : sayL.Box (w.setCell ⟨g, 4, none⟩ (.int .u64 x)) g { s with high := x } := Lay.Box.set h 4 _ _ rfl
theorem Say.set_next {w : World} {g : Nat} {s : Say} (h : sayL.Box w g s) (x : Int) : sayL.Box (w.setCell ⟨g, 5, none⟩ (.int .i64 x)) g { s with next := x } := Lay.Box.set h 5 _ _ rfl
theorem Say.at0B {w : World} {b : Nat} {s : Say} (h : sayL.Box w b s) : w.cell? ⟨b, 0, none⟩ = some (.bool s.bind) ∧ w.cell? ⟨b, 1, none⟩ = some (.int .u64 s.nth) ∧ w.cell? ⟨b, 2, none⟩ = some (.int .i64 s.add) ∧ w.cell? ⟨b, 3, none⟩ = some (.int .u64 s.tgt) ∧ w.cell? ⟨b, 4, none⟩ = some (.int .u64 s.high) ∧ w.cell? ⟨b, 5, none⟩ = some (.int .i64 s.next) := Say.at0 h.in
/-- The fixup of what a link says. -/
def fixF (s : Say) (l : List Imp) : Fx := if s.bind then bindF s.nth.toNat s.add l else ⟨0, 1, ((s.tgt.toNat % pow56 + s.high.toNat * pow56 : Nat) : Int), 0, ⟨#[]⟩, 0, false⟩
def fixN (s : Say) (l : List Imp) : Int := if s.bind then bindN s.nth.toNat l else 0
def Say.ok (s : Say) : Prop := 0 ≤ s.nth ∧ s.nth < 18446744073709551616 ∧ 0 ≤ s.tgt ∧ s.tgt < 18446744073709551616 ∧ 0 ≤ s.high ∧ s.high < 256
set_option maxHeartbeats 1000000 in
theorem fix_any (s : Say) (ok : s.ok) (l : List Imp) (v : Value) (w : World) (rd : impL.Rd w v l) :
    Calls Tryz.prog 66 #[s.v, v] w fun e w' => e = .returned (.tuple #[(fixF s l).v, .int .i64 (fixN s l)]) ∧ Chg [] w w' := by
  obtain ⟨sb, sn, sa, st, sh, sx⟩ := s
  obtain ⟨hn1, hn2, ht1, ht2, hh1, hh2⟩ := ok
  simp only at hn1 hn2 ht1 ht2 hh1 hh2
  obtain ⟨n, rfl⟩ := Int.eq_ofNat_of_zero_le hn1
  obtain ⟨t, rfl⟩ := Int.eq_ofNat_of_zero_le ht1
  obtain ⟨h, rfl⟩ := Int.eq_ofNat_of_zero_le hh1
  cases sb with
  | false =>
    have hF : fixF ⟨false, n, sa, t, h, sx⟩ l = ⟨0, 1, ((t % pow56 + h * pow56 : Nat) : Int), 0, ⟨#[]⟩, 0, false⟩ := by simp [fixF]
    have hN : fixN ⟨false, n, sa, t, h, sx⟩ l = 0 := by simp [fixN]
    rw [hF, hN]
    clear hF hN rd
    obtain ⟨T, hT⟩ : ∃ T : Nat, T = t % pow56 + h * pow56 := ⟨_, rfl⟩
    obtain ⟨u, hu⟩ : ∃ u : Nat, u = t % pow56 := ⟨_, rfl⟩
    obtain ⟨m, hm⟩ : ∃ m : Nat, m = h * pow56 := ⟨_, rfl⟩
    have HB : Hid (∀ w, Calls Tryz.prog 16 #[.int .u64 (t : Int), .int .i64 0, .int .i64 56] w fun e w' => e = .returned (.int .u64 (u : Int)) ∧ Dr w w') := by
      refine Lib.hid ?_
      intro w
      have := bits_any t 0 56 (by omega) (by decide) (by decide) w
      rw [pow56_eq, Nat.pow_zero, Nat.div_one, ← hu] at this
      exact this
    have q1 : IntKind.u64.wrap ((h : Int) * 72057594037927936) = (m : Int) := by rw [IntKind.wrap_u64, hm]; unfold pow56; omega
    have q2 : bits .or .u64 (u : Int) (m : Int) = (T : Int) := by
      have e1 : t % pow56 < 2 ^ 56 := by rw [pow56_eq]; exact Nat.mod_lt _ (by decide)
      have e2 := Nat.two_pow_add_eq_or_of_lt e1 h
      rw [pow56_eq, Nat.mul_comm pow56 h] at e2
      have e3 : t % pow56 < 72057594037927936 := e1
      rw [hu, hm, u64_or_nat _ _ (by omega) (by unfold pow56; omega), Nat.or_comm, ← e2, hT, Nat.add_comm]
    clear hu hm
    rw [← hT]
    clear hT
    show Calls _ _ #[.agg #[.bool false, .int .u64 (n : Int), .int .i64 sa, .int .u64 (t : Int), .int .u64 (h : Int), .int .i64 sx], v] w _
    go_enter Tryz.func66, Tryz.ntmps66
    go_upto_region 2 with fail
    have esz : (w.alloc (.cells #[.bool false, .int .u64 (n : Int), .int .i64 sa, .int .u64 (t : Int), .int .u64 (h : Int), .int .i64 sx] 128)).heap.size = w.heap.size + 1 := by simp
    have hZ := Fx.box (w.alloc (.cells #[.bool false, .int .u64 (n : Int), .int .i64 sa, .int .u64 (t : Int), .int .u64 (h : Int), .int .i64 sx] 128)) .zero 64
    rw [esz] at hZ
    obtain ⟨_, _, _, x3, x4, _⟩ := Say.at0 ((Say.boxed w ⟨false, n, sa, t, h, sx⟩ 128).frame ((Chg.refl [] _).alloc (.cells Fx.zero.cells.toArray 64)))
    simp only at x3 x4
    clear esz
    have HZ := Lib.hid hZ
    clear hZ
    refine wp_region_noPanic ?_
    refine wp_region_held_drew (S := fun w' => Chg [w.heap.size + 1] ((w.alloc (.cells #[.bool false, .int .u64 (n : Int), .int .i64 sa, .int .u64 (t : Int), .int .u64 (h : Int), .int .i64 sx] 128)).alloc (.cells #[.int .u64 0, .int .i64 0, .int .u64 0, .int .i64 0, .string ⟨#[]⟩, .int .i64 0, .bool false] 64)) w') (by kernel_rfl) (Chg.refl _ _).drew (fun hHeld => ?_)
    refine take_read (i := 0) (v := ?_) (by simp only [List.getElem?_toArray, List.getElem?_cons_zero]; rfl) (by kernel_rfl) (by kernel_rfl) (by kernel_rfl) (fun _ _ _ h => h) hHeld ?_ ?_
    rotate_left
    · intro w hSw
      go_simp
      try with_reducible rfl
    try simp only [Act.put, List.setIfInBounds_toArray, List.set_cons_zero, List.set_cons_succ]
    refine take_read (i := 1) (v := ?_) (by simp only [List.getElem?_toArray, List.getElem?_cons_succ, List.getElem?_cons_zero]; rfl) (by kernel_rfl) (by kernel_rfl) (by kernel_rfl) (fun _ _ _ h => h) hHeld ?_ ?_
    rotate_left
    · intro w hSw
      have x3 := hSw.cell x3 (by simp)
      go_simp
      try with_reducible rfl
    try simp only [Act.put, List.setIfInBounds_toArray, List.set_cons_zero, List.set_cons_succ]
    refine take_read (i := 3) (v := ?_) (by simp only [List.getElem?_toArray, List.getElem?_cons_succ, List.getElem?_cons_zero]; rfl) (by kernel_rfl) (by kernel_rfl) (by kernel_rfl) (fun _ _ _ h => h) hHeld ?_ ?_
    rotate_left
    · intro w hSw
      go_simp
      try with_reducible rfl
    try simp only [Act.put, List.setIfInBounds_toArray, List.set_cons_zero, List.set_cons_succ]
    refine take_read (i := 4) (v := ?_) (by simp only [List.getElem?_toArray, List.getElem?_cons_succ, List.getElem?_cons_zero]; rfl) (by kernel_rfl) (by kernel_rfl) (by kernel_rfl) (fun _ _ _ h => h) hHeld ?_ ?_
    rotate_left
    · intro w hSw
      have x4 := hSw.cell x4 (by simp)
      go_simp
      try with_reducible rfl
    try simp only [Act.put, List.setIfInBounds_toArray, List.set_cons_zero, List.set_cons_succ]
    refine take_read (i := 5) (v := ?_) (by simp only [List.getElem?_toArray, List.getElem?_cons_succ, List.getElem?_cons_zero]; rfl) (by kernel_rfl) (by kernel_rfl) (by kernel_rfl) (fun _ _ _ h => h) hHeld ?_ ?_
    rotate_left
    · intro w hSw
      go_simp
      try with_reducible rfl
    try simp only [Act.put, List.setIfInBounds_toArray, List.set_cons_zero, List.set_cons_succ]
    refine wpAnyH_ready (rs := [2]) (by kernel_rfl) (by simp) ?_
    refine AllReadyH.cons rfl (fun K hK => ?_) AllReadyH.nil
    go_simp
    refine (HB.out _).mono ?_
    rintro e w2 ⟨rfl, h2⟩
    obtain ⟨n2, rfl⟩ := h2.ex
    clear h2
    refine hK.out _ _ (show Chg [w.heap.size + 1] ((w.alloc (.cells #[.bool false, .int .u64 (n : Int), .int .i64 sa, .int .u64 (t : Int), .int .u64 (h : Int), .int .i64 sx] 128)).alloc (.cells #[.int .u64 0, .int .i64 0, .int .u64 0, .int .i64 0, .string ⟨#[]⟩, .int .i64 0, .bool false] 64)) (((w.alloc (.cells #[.bool false, .int .u64 (n : Int), .int .i64 sa, .int .u64 (t : Int), .int .u64 (h : Int), .int .i64 sx] 128)).alloc (.cells #[.int .u64 0, .int .i64 0, .int .u64 0, .int .i64 0, .string ⟨#[]⟩, .int .i64 0, .bool false] 64)).drew.drewN n2) from ((Chg.refl _ _).drew).drewN _) (fun hHeld2 => ?_)
    clear hK hHeld K
    have hHeld := hHeld2
    clear hHeld2
    try (unfold Act.put; simp only [List.setIfInBounds_toArray, List.set_cons_zero, List.set_cons_succ])
    refine take_read (i := 6) (v := ?_) (by simp only [List.getElem?_toArray, List.getElem?_cons_succ, List.getElem?_cons_zero]; rfl) (by kernel_rfl) (by kernel_rfl) (by kernel_rfl) (fun _ _ _ h => h) hHeld ?_ ?_
    rotate_left
    · intro w hSw
      go_simp
      try with_reducible rfl
    try simp only [Act.put, List.setIfInBounds_toArray, List.set_cons_zero, List.set_cons_succ]
    refine take_read (i := 7) (v := ?_) (by simp only [List.getElem?_toArray, List.getElem?_cons_succ, List.getElem?_cons_zero]; rfl) (by kernel_rfl) (by kernel_rfl) (by kernel_rfl) (fun _ _ _ h => h) hHeld ?_ ?_
    rotate_left
    · intro w hSw
      go_simp
      try with_reducible rfl
    try simp only [Act.put, List.setIfInBounds_toArray, List.set_cons_zero, List.set_cons_succ]
    refine wpAnyH_ready (rs := [8]) (by kernel_rfl) (by simp) ?_
    refine AllReadyH.cons rfl (fun K hK => ?_) AllReadyH.nil
    go_simp
    refine hK.out _ _ (((Chg.refl _ _).drewN _).same (Fx.chg0 _ (w.heap.size + 1) ⟨0, 1, T, 0, ⟨#[]⟩, 0, false⟩)) (fun hHeld2 => ?_)
    clear hK hHeld K
    have hHeld := hHeld2
    clear hHeld2
    try (unfold Act.put; simp only [List.setIfInBounds_toArray, List.set_cons_zero, List.set_cons_succ])
    refine take_read (i := 9) (v := ?_) (by simp only [List.getElem?_toArray, List.getElem?_cons_succ, List.getElem?_cons_zero]; rfl) (by kernel_rfl) (by kernel_rfl) (by kernel_rfl) (fun _ _ _ h => h) hHeld ?_ ?_
    rotate_left
    · intro w hSw
      go_simp
      try with_reducible rfl
    try simp only [Act.put, List.setIfInBounds_toArray, List.set_cons_zero, List.set_cons_succ]
    refine wpAnyH_done (by kernel_rfl) ?_ _
    refine NoPanic.normal ?_
    go_wp2
    refine Lay.with_post (fun W => fxL.Box W (w.heap.size + 1) ⟨0, 1, T, 0, ⟨#[]⟩, 0, false⟩ ∧ Chg [] w W) ⟨Fx.put0 (g := w.heap.size + 1) (HZ.out.drewN _) ⟨0, 1, T, 0, ⟨#[]⟩, 0, false⟩, ((((Chg.refl [] w).alloc _).alloc _).drewN _).trans (Fx.chg0 _ (w.heap.size + 1) ⟨0, 1, T, 0, ⟨#[]⟩, 0, false⟩) (fun i hi hw => by rw [List.mem_singleton] at hi; omega)⟩ (fun W hW => ?_)
    obtain ⟨g0, g1, g2, g3, g4, g5, g6⟩ := Fx.at0B hW.1
    refine bodyPost_ret (v := .tuple #[fixV 0 1 T 0 ⟨#[]⟩ 0 false, .int .i64 0]) (by simp [results, Tryz.results66, go_sem, g0, g1, g2, g3, g4, g5, g6]) rfl ?_
    exact ⟨rfl, hW.2⟩
  | true =>
    clear hh1 hh2 ht1 ht2 hn1 hn2
    have hw : IntKind.u64.wrap (l.length : Int) = (l.length : Int) := by
      obtain ⟨_, _, _, _, _⟩ := rd.shape
      rw [IntKind.wrap_u64]; omega
    obtain ⟨a, cap, rfl, hc1, hc2⟩ := rd.shape
    have hF : fixF ⟨true, n, sa, t, h, sx⟩ l = bindF n sa l := by simp [fixF]
    have hN : fixN ⟨true, n, sa, t, h, sx⟩ l = bindN n l := by simp [fixN]
    rw [hF, hN]
    clear hF hN
    by_cases hlt : n < l.length
    · have hF : bindF n sa l = ⟨0, 2, 0, (l.getD n .zero).ord, (l.getD n .zero).sym, wrap64 ((l.getD n .zero).add + sa), (l.getD n .zero).weak⟩ := if_pos hlt
      have hN : bindN n l = 0 := if_pos hlt
      rw [hF, hN]
      clear hF hN
      obtain ⟨b, off, rfl, hb, hcell⟩ := rd.at (by omega)
      have hI := hcell n hlt
      obtain ⟨x, hx⟩ : ∃ x, x = l.getD n .zero := ⟨_, rfl⟩
      have hI' : impL.In w b (off + n * 4) x := by rw [hx]; exact hI
      rw [← hx]
      obtain ⟨x0, x1, x2, x3⟩ := Imp.at hI'
      have d0 : decide ((l.length : Int) ≤ (n : Int)) = false := by simp; omega
      clear hI hI' hcell hx rd
      show Calls _ _ #[.agg #[.bool true, .int .u64 (n : Int), .int .i64 sa, .int .u64 (t : Int), .int .u64 (h : Int), .int .i64 sx], _] w _
      go_enter Tryz.func66, Tryz.ntmps66
      go_wp2
      refine bodyPost_ret (v := .tuple #[fixV 0 2 0 x.ord x.sym (wrap64 (x.add + sa)) x.weak, .int .i64 0]) (by simp [results, Tryz.results66, go_sem]) rfl ?_
      exact ⟨rfl, (((Chg.refl _ _).alloc _).alloc _).alloc _⟩
    · have hF : bindF n sa l = .zero := if_neg hlt
      have hN : bindN n l = 16 := if_neg hlt
      rw [hF, hN]
      clear hF hN rd
      have d0 : decide ((l.length : Int) ≤ (n : Int)) = true := by simp; omega
      show Calls _ _ #[.agg #[.bool true, .int .u64 (n : Int), .int .i64 sa, .int .u64 (t : Int), .int .u64 (h : Int), .int .i64 sx], _] w _
      go_enter Tryz.func66, Tryz.ntmps66
      go_wp2
      refine bodyPost_ret (v := .tuple #[fixV 0 0 0 0 ⟨#[]⟩ 0 false, .int .i64 16]) (by simp [results, Tryz.results66, go_sem]) rfl ?_
      exact ⟨rfl, ((Chg.refl _ _).alloc _).alloc _⟩
end Go.Proofs.YtpnldfinobnpoaaGreatDoor
