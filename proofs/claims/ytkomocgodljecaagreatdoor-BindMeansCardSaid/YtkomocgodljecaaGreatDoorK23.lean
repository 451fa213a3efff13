/- Lemmas, laid together: part 23 of 41. Conditions: none but each lemma's own. -/
import Derived.Test.YtkomocgodljecaaGreatDoorK22
import Derived.Deep.DeepMust
import Derived.Test.YtkomocgodljecaaGreatDoorK3
/- bind: the reader at any state; number, on, the ordinals, the places. -/
namespace Go.Proofs.YtkomocgodljecaaGreatDoor
open Go.RowKit
set_option maxRecDepth 100000

def dR (bc : Nat) (m : Img) (K imm : Int) (s : BdS) (so : SlV) : Brd := ⟨some ⟨bc, 0, none⟩, m, K, imm, s.f, s.is_, s.typ, so, s.ended⟩
/-- The reader at a state. -/
structure StD (w : World) (B : List UInt8) (m : Img) (K imm : Int) (s : BdS) (bc b : Nat) (W : World) : Prop where
  lo : w.heap.size ≤ bc
  hi : bc < b
  env : Env W
  cur : CurB W bc ⟨B, s.p, false, false⟩
  chg : Chg [] w W
  box : ∃ so : SlV, brdL.Box W b (dR bc m K imm s so) ∧ FB W (b + 1) so.v s.fs
  n : s.fs.length ≤ 20000
  at_ : 0 ≤ s.f.at_ ∧ s.f.at_ < 18446744073709551616
section
variable {w W W' : World} {B : List UInt8} {m : Img} {K imm : Int} {s : BdS} {bc b : Nat}
theorem StD.lt (h : StD w B m K imm s bc b W) : b < W.heap.size := by
  obtain ⟨so, h1, _⟩ := h.box
  exact h1.lt
theorem StD.pure (h : StD w B m K imm s bc b W) (k : Chg [] W W') : StD w B m K imm s bc b W' := by
  obtain ⟨so, h1, h2⟩ := h.box
  exact ⟨h.lo, h.hi, h.env.frame k (by simp), h.cur.frame k, h.chg.then k, ⟨so, h1.frame k, h2.pure k⟩, h.n, h.at_⟩
/-- Behind a write to the reader's own blocks. -/
theorem StD.next (h : StD w B m K imm s bc b W) (hw : Env w) {so : SlV} (hb : brdL.Box W b (dR bc m K imm s so)) (hf : FB W (b + 1) so.v s.fs)
    {S : List Nat} (k : Chg S W W') (hS : ∀ i ∈ S, i = b ∨ i = bc ∨ so.v.ownBlock = some i) {imm' : Int} {s' : BdS} {so' : SlV} (hc' : CurB W' bc ⟨B, s'.p, false, false⟩) (hb' : brdL.Box W' b (dR bc m K imm' s' so')) (hf' : FB W' (b + 1) so'.v s'.fs) (hn : s'.fs.length ≤ 20000) (ha : 0 ≤ s'.f.at_ ∧ s'.f.at_ < 18446744073709551616) :
    StD w B m K imm' s' bc b W' ∧ KeepF W W' := by
  have hlo := h.lo
  have hhi := h.hi
  have hS2 : ∀ i ∈ S, bc ≤ i := fun i hi => by
    rcases hS i hi with e | e | e
    · omega
    · omega
    · have := (hf.lt i e).1; omega
  refine ⟨⟨h.lo, h.hi, h.env.frame k (fun hm => by have := hS2 _ hm; have := hw.pos; omega), hc', h.chg.trans k (fun i hm hi => by have := hS2 _ hm; omega), ⟨so', hb', hf'⟩, hn, ha⟩, fun q hq => hq.frameS k (fun hm => ?_)⟩
  rcases hS q hm with e | e | e
  · exact fns_ne_b hb hq e
  · exact fns_ne_c h.cur hq e
  · exact fns_ne_o hf e hq rfl
theorem StD.own (h : StD w B m K imm s bc b W) {so : SlV} (hf : FB W (b + 1) so.v s.fs) {S : List Nat} (k : Chg S W W') (hS : ∀ i ∈ S, i = b ∨ i = bc) : FB W' (b + 1) so.v s.fs :=
  hf.frame k (fun i hi hm => by have := (hf.lt i hi).1; have := h.hi; rcases hS i hm with e | e <;> omega)
/-- Behind a write to the reader alone. -/
theorem StD.set (h : StD w B m K imm s bc b W) (hw : Env w) {so : SlV} (hb : brdL.Box W b (dR bc m K imm s so)) (hf : FB W (b + 1) so.v s.fs) (k : Chg [b] W W') {imm' : Int} {s' : BdS} (hp : s'.p = s.p) (hfs : s'.fs = s.fs) (hb' : brdL.Box W' b (dR bc m K imm' s' so)) (ha : 0 ≤ s'.f.at_ ∧ s'.f.at_ < 18446744073709551616) : StD w B m K imm' s' bc b W' ∧ KeepF W W' := by
  have hhi := h.hi
  exact h.next hw hb hf k (fun i hi => .inl (by simpa using hi)) (by rw [hp]; exact h.cur.far2 k (by simp; omega)) hb' (by rw [hfs]; exact h.own hf k (fun i hi => .inl (by simpa using hi))) (by rw [hfs]; exact h.n) ha
/-- Behind bytes taken. -/
theorem StD.took (h : StD w B m K imm s bc b W) (hw : Env w) {so : SlV} (hb : brdL.Box W b (dR bc m K imm s so)) (hf : FB W (b + 1) so.v s.fs) (k : Chg [bc] W W') {q : Nat} (hc : CurB W' bc ⟨B, q, false, false⟩) : StD w B m K imm { s with p := q } bc b W' ∧ KeepF W W' := by
  have hhi := h.hi
  exact h.next hw hb hf k (fun i hi => .inr (.inl (by simpa using hi))) hc (hb.frameS k (by simp; omega)) (h.own hf k (fun i hi => .inr (by simpa using hi))) h.n h.at_
theorem StD.chgc (h : StD w B m K imm s bc b W) {S : List Nat} (k : Chg S W W') (hS : ∀ i ∈ S, bc ≤ i) : Chg [] w W' := h.chg.trans k (fun i hm hi => by have := hS i hm; have := h.lo; omega)
end
/-- What a method of the reader comes to. -/
def OutD (w : World) (B : List UInt8) (m : Img) (K imm : Int) (bc b : Nat) (W0 : World) (r : BdR) (e : Ending) (w' : World) : Prop :=
  match r with
  | .ok s => e = .returned (.tuple #[]) ∧ StD w B m K imm s bc b w' ∧ KeepF W0 w'
  | .bad q => e = stopB q ∧ Chg [] w w'
theorem outD_ok {w : World} {B : List UInt8} {m : Img} {K imm : Int} {bc b : Nat} {W0 w' : World} {s : BdS} (h : StD w B m K imm s bc b w' ∧ KeepF W0 w') : OutD w B m K imm bc b W0 (.ok s) (.returned (.tuple #[])) w' := ⟨rfl, h⟩
theorem outD_bad {w : World} {B : List UInt8} {m : Img} {K imm : Int} {bc b : Nat} {W0 w' : World} {q : Int} (h : Chg [] w w') : OutD w B m K imm bc b W0 (.bad q) (stopB q) w' := ⟨rfl, h⟩
theorem number_bad (b bc : Nat) (r : Brd) (s : CS) (hc : r.c = some ⟨bc, 0, none⟩) (hlt : bc < b) (hf : (lebS ulebR s).failed = true) (w : World) (hg : Env w) (hlo : 1 < bc) (hcur : CurB w bc s) (hb : brdL.Box w b r) :
    Calls Tryz.prog 69 #[.pointer (some ⟨b, 0, none⟩)] w fun e w' => e = stopB 3 ∧ Chg [bc] w w' := by
  have HER := Lib.hid (fun w hg hcur => Err_bad bc (lebS ulebR s) w hg hcur hf)
  have HUL := Lib.hid (fun w hg hcur => Uleb_cur bc s w hg hcur)
  have x0 := Brd.c_c hb
  rw [hc] at x0
  have heb : Hid (1 ∉ [bc]) := Lib.hid (by simp; omega)
  have Hcur := Lib.hid hcur
  have Hb := Lib.hid hb
  have Hg := Lib.hid hg
  have Hf := Lib.hid hf
  clear hcur hb hg hf
  go_enter Tryz.func69, Tryz.ntmps69
  go_wp2_with fail
  refine (HUL.out _ Hg.out Hcur.out).mono ?_
  rintro e W1 ⟨rfl, hc1, h1⟩
  have B1 := Lib.hid (Hb.out.frameS h1 (by simp; omega))
  replace x0 := Brd.c_c B1.out
  rw [hc] at x0
  have CU1 := Lib.hid hc1
  have C1 := Lib.hid h1
  clear hc1 h1
  go_wp2_with fail
  refine (HER.out _ (Hg.out.frame C1.out heb.out) CU1.out).mono ?_
  rintro e W2 ⟨rfl, h2⟩
  have C2 := Lib.hid (C1.out.then h2)
  clear h2 x0
  go_wp2_with fail
  refine (refuse_bad 3 _).mono ?_
  rintro e WP ⟨rfl, rfl⟩
  exact ⟨rfl, rfl, C2.out⟩
theorem Env.lo {w : World} (hw : Env w) {bc : Nat} (h : w.heap.size ≤ bc) : 1 < bc := by
  have := hw.pos
  omega
/-- The next number. -/
def NumD (w : World) (B : List UInt8) (m : Img) (K imm : Int) (bc b : Nat) (W : World) (s : BdS) (e : Ending) (w' : World) : Prop :=
  match uvalV (B.drop s.p) with
  | none => e = stopB 3 ∧ Chg [] w w'
  | some (n, q) => e = .returned (.int .u64 (n : Int)) ∧ StD w B m K imm { s with p := s.p + q } bc b w' ∧ KeepF W w'
theorem number_D {w : World} {B : List UInt8} {m : Img} {K imm : Int} {s : BdS} {bc b : Nat} {W : World} (h : StD w B m K imm s bc b W) (hw : Env w) :
    Calls Tryz.prog 69 #[.pointer (some ⟨b, 0, none⟩)] W (NumD w B m K imm bc b W s) := by
  obtain ⟨so, h1, h2⟩ := h.box
  unfold NumD
  cases hu : uvalV (B.drop s.p) with
  | none =>
    obtain ⟨_, hv2⟩ := U_none false hu
    refine (number_bad b bc _ ⟨B, s.p, false, false⟩ rfl h.hi (by rw [hv2]) W h.env (Env.lo hw h.lo) h.cur h1).mono ?_
    rintro e w' ⟨rfl, hc⟩
    exact ⟨rfl, h.chgc hc (by simp)⟩
  | some p =>
    obtain ⟨n, q⟩ := p
    obtain ⟨hv1, hv2⟩ := U_some false hu
    refine (number_ok b bc n _ ⟨B, s.p, false, false⟩ rfl h.hi (by rw [hv2]) hv1 W h.env h.cur h1).mono ?_
    rintro e w' ⟨rfl, hcu, hc⟩
    rw [hv2] at hcu
    exact ⟨rfl, h.took hw h1 h2 hc hcu⟩
theorem setOrd_D {w : World} {B : List UInt8} {m : Img} {K imm : Int} {s : BdS} {bc b : Nat} {W : World} (h : StD w B m K imm s bc b W) (hw : Env w) (n : Nat) (hn : n < 18446744073709551616) (hd : m.deps.n ≤ 4611686018427387904) :
    Calls Tryz.prog 68 #[.pointer (some ⟨b, 0, none⟩), .int .u64 n] W (OutD w B m K imm bc b W (ordD m.deps.n K s n)) := by
  obtain ⟨so, h1, h2⟩ := h.box
  have x3 : W.cell? ⟨b, 25, none⟩ = some (.int .i64 K) := Brd.c_kind h1
  have x6 : W.cell? ⟨b, 6, none⟩ = some (.slice m.deps.a m.deps.n m.deps.cap) := by have := h1.in 6 (by decide); rw [Nat.zero_add] at this; exact this
  have x7 : W.cell? ⟨b, 30, none⟩ = some (.int .i64 s.f.ord) := Brd.c_ord h1
  have z7 := h1.frozen 30
  obtain ⟨d, hdd⟩ : ∃ d, d = m.deps.n := ⟨_, rfl⟩
  rw [← hdd] at x6 hd ⊢
  have hw1 : IntKind.u64.wrap (d : Int) = (d : Int) := by rw [IntKind.wrap_u64]; omega
  by_cases k2 : K = 2
  · have e2 : (K == 2) = true := by rw [k2]; rfl
    have e1 : ordD d K s n = .bad 14 := by unfold ordD; rw [if_pos k2]
    rw [e1]
    have H := Lib.hid h
    have H1 := Lib.hid h1
    have H2 := Lib.hid h2
    have Hdd := Lib.hid hdd
    have K2 := Lib.hid k2
    have E1 := Lib.hid e1
    have Hd := Lib.hid hd
    clear h h1 h2 hdd k2 e1 hd
    go_enter Tryz.func68, Tryz.ntmps68
    go_wp2_with fail
    refine (refuse_bad 14 _).mono ?_
    rintro e WP ⟨rfl, rfl⟩
    exact ⟨rfl, outD_bad H.out.chg⟩
  · have e2 : (K == 2) = false := by rw [beq_eq_false_iff_ne]; exact k2
    by_cases hgt : d < n
    · have e1 : ordD d K s n = .bad 22 := by unfold ordD; rw [if_neg k2, if_pos hgt]
      have d1 : decide (d < n) = true := decide_eq_true hgt
      have d2 : decide ((d : Int) < (n : Int)) = true := decide_eq_true (by omega)
      rw [e1]
      have H := Lib.hid h
      have H1 := Lib.hid h1
      have H2 := Lib.hid h2
      have Hdd := Lib.hid hdd
      have K2 := Lib.hid k2
      have E1 := Lib.hid e1
      have Hd := Lib.hid hd
      have Hgt := Lib.hid hgt
      clear h h1 h2 hdd k2 e1 hd hgt
      go_enter Tryz.func68, Tryz.ntmps68
      go_wp2_with fail
      refine (refuse_ok 14 _).mono ?_
      rintro e WP ⟨rfl, rfl⟩
      go_wp2_with fail
      refine (refuse_bad 22 _).mono ?_
      rintro e WP ⟨rfl, rfl⟩
      exact ⟨rfl, outD_bad H.out.chg⟩
    · have e1 : ordD d K s n = .ok { s with f := { s.f with ord := (n : Int) } } := by unfold ordD; rw [if_neg k2, if_neg hgt]
      have d1 : decide (d < n) = false := decide_eq_false hgt
      have d2 : decide ((d : Int) < (n : Int)) = false := decide_eq_false (by omega)
      have hw2 : IntKind.i64.wrap (n : Int) = (n : Int) := by rw [IntKind.wrap_i64]; omega
      rw [e1]
      have H := Lib.hid h
      have H1 := Lib.hid h1
      have H2 := Lib.hid h2
      have Hdd := Lib.hid hdd
      have K2 := Lib.hid k2
      have E1 := Lib.hid e1
      have Hd := Lib.hid hd
      have Hgt := Lib.hid hgt
      clear h h1 h2 hdd k2 e1 hd hgt
      go_enter Tryz.func68, Tryz.ntmps68
      go_wp2_with fail
      refine (refuse_ok 14 _).mono ?_
      rintro e WP ⟨rfl, rfl⟩
      go_wp2_with fail
      refine (refuse_ok 22 _).mono ?_
      rintro e WP ⟨rfl, rfl⟩
      go_wp2
      go_end0
      exact outD_ok (H.out.set hw H1.out H2.out ((Chg.refl [b] _).setCell _ _ (.inl (by simp))) rfl rfl (Brd.set_ord H1.out _) H.out.at_)
theorem ordinal_D {w : World} {B : List UInt8} {m : Img} {K : Int} {im : Nat} {s : BdS} {bc b : Nat} {W : World} (h : StD w B m K (im : Int) s bc b W) (hw : Env w) (hi : im < 16) (hd : m.deps.n ≤ 4611686018427387904) :
    Calls Tryz.prog 49 #[.pointer (some ⟨b, 0, none⟩)] W (OutD w B m K (im : Int) bc b W (ordD m.deps.n K s im)) := by
  obtain ⟨so, h1, h2⟩ := h.box
  have x3 : W.cell? ⟨b, 26, none⟩ = some (.int .u8 (im : Int)) := Brd.c_imm h1
  have hw1 : IntKind.u64.wrap (im : Int) = (im : Int) := by rw [IntKind.wrap_u64]; omega
  have HSO := Lib.hid (setOrd_D h hw im (by omega) hd)
  obtain ⟨R, hR⟩ : ∃ R, R = ordD m.deps.n K s im := ⟨_, rfl⟩
  rw [← hR] at HSO ⊢
  have H := Lib.hid h
  have H1 := Lib.hid h1
  have H2 := Lib.hid h2
  have HR := Lib.hid hR
  clear h h1 h2 hR
  go_enter Tryz.func49, Tryz.ntmps49
  go_wp2_with fail
  refine HSO.out.mono ?_
  intro e W1 ho
  cases R with
  | ok s1 =>
    obtain ⟨rfl, hs⟩ := ho
    have Hs := Lib.hid hs
    clear hs
    go_wp2
    go_end0
    exact outD_ok Hs.out
  | bad q =>
    obtain ⟨rfl, hc⟩ := ho
    exact ⟨rfl, outD_bad hc⟩
theorem ordinalFar_D {w : World} {B : List UInt8} {m : Img} {K imm : Int} {s : BdS} {bc b : Nat} {W : World} (h : StD w B m K imm s bc b W) (hw : Env w) (hd : m.deps.n ≤ 4611686018427387904) :
    Calls Tryz.prog 50 #[.pointer (some ⟨b, 0, none⟩)] W (OutD w B m K imm bc b W (numD B s (fun s n => ordD m.deps.n K s n))) := by
  have hnu := number_D h hw
  unfold NumD at hnu
  unfold numD
  cases hu : uvalV (B.drop s.p) with
  | none =>
    rw [hu] at hnu
    have H := Lib.hid h
    have Hu := Lib.hid hu
    have Hnu := Lib.hid hnu
    clear h hu hnu
    go_enter Tryz.func50, Tryz.ntmps50
    go_wp2_with fail
    refine Hnu.out.mono ?_
    rintro e W1 ⟨rfl, hc⟩
    exact ⟨rfl, outD_bad hc⟩
  | some p =>
    obtain ⟨n, q⟩ := p
    rw [hu] at hnu
    have hn := (uvalV_lt hu).1
    dsimp only
    obtain ⟨R, hR⟩ : ∃ R, R = ordD m.deps.n K { s with p := s.p + q } n := ⟨_, rfl⟩
    rw [← hR]
    have H := Lib.hid h
    have Hu := Lib.hid hu
    have Hnu := Lib.hid hnu
    clear h hu hnu
    go_enter Tryz.func50, Tryz.ntmps50
    go_wp2_with fail
    refine Hnu.out.mono ?_
    rintro e W1 ⟨rfl, hs, hk⟩
    have HSO := Lib.hid (setOrd_D hs hw n hn hd)
    rw [← hR] at HSO
    have Hk := Lib.hid hk
    have Hs := Lib.hid hs
    have Hn := Lib.hid hn
    have HR := Lib.hid hR
    clear hk hs hn hR
    go_wp2_with fail
    refine HSO.out.mono ?_
    intro e W2 ho
    cases R with
    | ok s1 =>
      obtain ⟨rfl, hs1, hk1⟩ := ho
      have Hs1 := Lib.hid hs1
      have Hk1 := Lib.hid hk1
      clear hs1 hk1
      go_wp2
      go_end0
      exact outD_ok ⟨Hs1.out, Hk.out.trans Hk1.out⟩
    | bad q1 =>
      obtain ⟨rfl, hc⟩ := ho
      exact ⟨rfl, outD_bad hc⟩
theorem on_D {w : World} {B : List UInt8} {m : Img} {K imm : Int} {s : BdS} {bc b : Nat} {W : World} (h : StD w B m K imm s bc b W) (hw : Env w) (n : Nat) (hn : n < 18446744073709551616) :
    Calls Tryz.prog 74 #[.pointer (some ⟨b, 0, none⟩), .int .u64 n] W (OutD w B m K imm bc b W (onD s n)) := by
  obtain ⟨so, h1, h2⟩ := h.box
  have hat := h.at_
  obtain ⟨A, hA⟩ : ∃ A : Nat, A = s.f.at_.toNat := ⟨_, rfl⟩
  have hA2 : s.f.at_ = (A : Int) := by omega
  by_cases hlt : A + n < 18446744073709551616
  · have e1 : onD s n = .ok { s with f := { s.f with at_ := ((A + n : Nat) : Int) } } := by
      unfold onD
      rw [hA2, if_pos (by omega)]
      congr
    rw [e1]
    refine (on_ok b (dR bc m K imm s so) A n hA2 hlt W h1).mono ?_
    rintro e w' ⟨rfl, hb, hc⟩
    exact outD_ok (h.set hw h1 h2 hc rfl rfl hb (by dsimp only; omega))
  · have e1 : onD s n = .bad 4 := by unfold onD; rw [hA2, if_neg (by omega)]
    rw [e1]
    have hr := Add64_runB A n
    have hq : (A + n) / 18446744073709551616 = 1 := by omega
    obtain ⟨T, hT⟩ : ∃ T, T = (A + n) % 18446744073709551616 := ⟨_, rfl⟩
    rw [hq, ← hT] at hr
    have hr2 := fun w => hr w
    have x3 : W.cell? ⟨b, 27, none⟩ = some (.int .u64 (A : Int)) := by rw [← hA2]; exact Brd.c_at h1
    clear hr
    have H := Lib.hid h
    have H1 := Lib.hid h1
    have H2 := Lib.hid h2
    have HA := Lib.hid hA
    have HA2 := Lib.hid hA2
    have Hlt := Lib.hid hlt
    have Hq := Lib.hid hq
    have HT := Lib.hid hT
    have Hat := Lib.hid hat
    have E1 := Lib.hid e1
    clear h h1 h2 hA hA2 hlt hq hT hat e1
    go_enter Tryz.func74, Tryz.ntmps74
    go_wp2_with fail
    refine (refuse_bad 4 _).mono ?_
    rintro e WP ⟨rfl, rfl⟩
    exact ⟨rfl, outD_bad H.out.chg⟩
end Go.Proofs.YtkomocgodljecaaGreatDoor
/- A region that draws its order and ends in a panic. No program in sight. -/
namespace Go.Proofs.YtkomocgodljecaaGreatDoor
open Go.RowKit

/-- Q, but at a panic: R. -/
def PanTo (R : Ending → World → Prop) (Q : Exit → Act → World → Prop) : Exit → Act → World → Prop
  | .panic c, a, w => a.defers = [] ∧ R (.panicked c) w
  | e, a, w => Q e a w
theorem PanTo.put {R : Ending → World → Prop} {Q : Exit → Act → World → Prop} {c : List PanicEntry} {a : Act} {d : Option Tmp} {v : Value} {w : World} (h : PanTo R Q (.panic c) (a.put d v) w) : PanTo R Q (.panic c) a w := by
  cases d with
  | none => exact h
  | some t => exact h
theorem wp_region_panTo {P : Program} {id : Nat} {ops : Array Oper} {b : Bool} {Q : Exit → Act → World → Prop} {a : Act} {w : World} {R : Ending → World → Prop} (hR : ∀ c a w, a.defers = [] → R (.panicked c) w → Q (.panic c) a w)
    (h : (Code.region id ops b).wp P (PanTo R Q) a w) : (Code.region id ops b).wp P Q a w :=
  Code.wp_mono (fun e a w h => by
    cases e <;> first | exact h | exact hR _ _ _ h.1 h.2) h
end Go.Proofs.YtkomocgodljecaaGreatDoor
