/- Lemmas, laid together: part 25 of 41. Conditions: none but each lemma's own. -/
import Derived.Test.YtkomocgodljecaaGreatDoorK24
/- bind: the end, special ordinals, the kinds. -/
namespace Go.Proofs.YtkomocgodljecaaGreatDoor
open Go.RowKit
set_option maxRecDepth 100000

section
variable {w : World} {B : List UInt8} {m : Img} {kd : Int} {s : BdS} {bc b : Nat} {W : World}
theorem opD_0 (ls : List Seg) (nd im : Nat) : opD B ls nd kd 0 im s = .ok { s with ended := !decide (kd = 3) } := rfl
theorem opD_1 (ls : List Seg) (nd im : Nat) : opD B ls nd kd 1 im s = ordD nd kd s im := rfl
theorem opD_2 (ls : List Seg) (nd im : Nat) : opD B ls nd kd 2 im s = numD B s (fun s n => ordD nd kd s n) := rfl
theorem opD_3 (ls : List Seg) (nd im : Nat) : opD B ls nd kd 3 im s = (if kd = 2 then .bad 14 else if im = 0 ∨ 13 ≤ im then .ok { s with f := { s.f with ord := if im = 0 then 0 else (im : Int) - 16 } } else .bad 22) := rfl
theorem opD_4 (ls : List Seg) (nd im : Nat) : opD B ls nd kd 4 im s = symD B kd im s := rfl
theorem opD_5 (ls : List Seg) (nd im : Nat) : opD B ls nd kd 5 im s = .ok { s with typ := (im : Int) } := rfl
theorem opD_6 (ls : List Seg) (nd im : Nat) : opD B ls nd kd 6 im s = (match svalV (B.drop s.p) with | none => .bad 3 | some (n, q) => .ok { s with p := s.p + q, f := { s.f with add := n } }) := rfl
theorem opD_7 (ls : List Seg) (nd im : Nat) : opD B ls nd kd 7 im s = numD B s (fun s n => if (placeS ls im n).2 = 0 then .ok { s with f := { s.f with at_ := (placeS ls im n).1 }, is_ := true } else .bad (placeS ls im n).2) := rfl
theorem opD_8 (ls : List Seg) (nd im : Nat) : opD B ls nd kd 8 im s = numD B s (fun s n => if s.is_ = true then onD s n else .bad 14) := rfl
theorem opD_9 (ls : List Seg) (nd im : Nat) : opD B ls nd kd 9 im s = bindsD ls s 1 0 := rfl
theorem opD_10 (ls : List Seg) (nd im : Nat) : opD B ls nd kd 10 im s = numD B s (fun s n => bindsD ls s 1 n) := rfl
theorem opD_11 (ls : List Seg) (nd im : Nat) : opD B ls nd kd 11 im s = bindsD ls s 1 (8 * im) := rfl
theorem opD_12 (ls : List Seg) (nd im : Nat) : opD B ls nd kd 12 im s = numD B s (fun s n => numD B s (fun s k => bindsD ls s n k)) := rfl
theorem end_D {imm : Int} (h : StD w B m kd imm s bc b W) (hw : Env w) :
    Calls Tryz.prog 48 #[.pointer (some ⟨b, 0, none⟩)] W (OutD w B m kd imm bc b W (.ok { s with ended := !decide (kd = 3) })) := by
  obtain ⟨so, h1, h2⟩ := h.box
  have x3 : W.cell? ⟨b, 25, none⟩ = some (.int .i64 kd) := Brd.c_kind h1
  have x7 : W.cell? ⟨b, 37, none⟩ = some (.bool s.ended) := Brd.c_ended h1
  have z7 := h1.frozen 37
  have e3 : (kd != 3) = !decide (kd = 3) := by rw [bne]; congr 1
  obtain ⟨q, hq⟩ : ∃ q, q = !decide (kd = 3) := ⟨_, rfl⟩
  rw [← hq] at e3 ⊢
  have H := Lib.hid h
  have H1 := Lib.hid h1
  have H2 := Lib.hid h2
  have Hq := Lib.hid hq
  clear h h1 h2 hq
  go_enter Tryz.func48, Tryz.ntmps48
  go_wp2
  go_end0
  exact outD_ok (H.out.set hw H1.out H2.out ((Chg.refl [b] _).setCell _ _ (.inl (by simp))) rfl rfl (Brd.set_ended H1.out _) H.out.at_)
theorem kinds_D {im : Nat} (h : StD w B m kd (im : Int) s bc b W) (hw : Env w) :
    Calls Tryz.prog 53 #[.pointer (some ⟨b, 0, none⟩)] W (OutD w B m kd (im : Int) bc b W (.ok { s with typ := (im : Int) })) := by
  obtain ⟨so, h1, h2⟩ := h.box
  have x4 : W.cell? ⟨b, 26, none⟩ = some (.int .u8 (im : Int)) := Brd.c_imm h1
  have x7 : W.cell? ⟨b, 35, none⟩ = some (.int .u8 s.typ) := Brd.c_typ h1
  have z7 := h1.frozen 35
  have H := Lib.hid h
  have H1 := Lib.hid h1
  have H2 := Lib.hid h2
  clear h h1 h2
  go_enter Tryz.func53, Tryz.ntmps53
  go_wp2
  go_end0
  exact outD_ok (H.out.set hw H1.out H2.out ((Chg.refl [b] _).setCell _ _ (.inl (by simp))) rfl rfl (Brd.set_typ H1.out _) H.out.at_)
theorem special_D {im : Nat} (h : StD w B m kd (im : Int) s bc b W) (hw : Env w) (hi : im < 16) (ls : List Seg) (nd : Nat) :
    Calls Tryz.prog 51 #[.pointer (some ⟨b, 0, none⟩)] W (OutD w B m kd (im : Int) bc b W (opD B ls nd kd 3 im s)) := by
  obtain ⟨so, h1, h2⟩ := h.box
  have x3 : W.cell? ⟨b, 25, none⟩ = some (.int .i64 kd) := Brd.c_kind h1
  by_cases k2 : kd = 2
  · have e2 : (kd == 2) = true := by rw [k2]; rfl
    have e1 : opD B ls nd kd 3 im s = .bad 14 := by rw [opD_3, if_pos k2]
    rw [e1]
    have H := Lib.hid h
    have H1 := Lib.hid h1
    have H2 := Lib.hid h2
    have K2 := Lib.hid k2
    have E1 := Lib.hid e1
    clear h h1 h2 k2 e1
    go_enter Tryz.func51, Tryz.ntmps51
    go_wp2_with fail
    refine (refuse_bad 14 _).mono ?_
    rintro e WP ⟨rfl, rfl⟩
    exact ⟨rfl, outD_bad H.out.chg⟩
  have e2 : (kd == 2) = false := by rw [beq_eq_false_iff_ne]; exact k2
  have x7 : W.cell? ⟨b, 30, none⟩ = some (.int .i64 s.f.ord) := Brd.c_ord h1
  have z7 := h1.frozen 30
  have hc : im = 0 ∨ im = 13 ∨ im = 14 ∨ im = 15 ∨ im = 1 ∨ im = 2 ∨ im = 3 ∨ im = 4 ∨ im = 5 ∨ im = 6 ∨ im = 7 ∨ im = 8 ∨ im = 9 ∨ im = 10 ∨ im = 11 ∨ im = 12 := by omega
  rcases hc with rfl | rfl | rfl | rfl | hc
  · have e1 : opD B ls nd kd 3 0 s = .ok { s with f := { s.f with ord := 0 } } := by rw [opD_3, if_neg k2, if_pos (by decide), if_pos rfl]
    rw [e1]
    have x4 : W.cell? ⟨b, 26, none⟩ = some (.int .u8 0) := Brd.c_imm h1
    have H := Lib.hid h
    have H1 := Lib.hid h1
    have H2 := Lib.hid h2
    have K2 := Lib.hid k2
    have E1 := Lib.hid e1
    clear h h1 h2 k2 e1
    go_enter Tryz.func51, Tryz.ntmps51
    go_wp2_with fail
    refine (refuse_ok 14 _).mono ?_
    rintro e WP ⟨rfl, rfl⟩
    go_wp2_with fail
    refine (refuse_ok 22 _).mono ?_
    rintro e WP ⟨rfl, rfl⟩
    go_wp2
    go_end0
    exact outD_ok (H.out.set hw H1.out H2.out ((Chg.refl [b] _).setCell _ _ (.inl (by simp))) rfl rfl (Brd.set_ord H1.out _) H.out.at_)
  · have e1 : opD B ls nd kd 3 13 s = .ok { s with f := { s.f with ord := -3 } } := by rw [opD_3, if_neg k2, if_pos (by decide), if_neg (by decide)]; rfl
    rw [e1]
    have x4 : W.cell? ⟨b, 26, none⟩ = some (.int .u8 13) := Brd.c_imm h1
    have hw1 : IntKind.i8.wrap 208 = -48 := by decide
    have hw2 : wrap64 (-3) = -3 := by unfold wrap64; omega
    have hw3 : wrap64 ((-48 : Int) / 16) = -3 := by unfold wrap64; omega
    have H := Lib.hid h
    have H1 := Lib.hid h1
    have H2 := Lib.hid h2
    have K2 := Lib.hid k2
    have E1 := Lib.hid e1
    clear h h1 h2 k2 e1
    go_enter Tryz.func51, Tryz.ntmps51
    go_wp2_with fail
    refine (refuse_ok 14 _).mono ?_
    rintro e WP ⟨rfl, rfl⟩
    go_wp2_with fail
    refine (refuse_ok 22 _).mono ?_
    rintro e WP ⟨rfl, rfl⟩
    go_wp2
    go_end0
    exact outD_ok (H.out.set hw H1.out H2.out ((Chg.refl [b] _).setCell _ _ (.inl (by simp))) rfl rfl (Brd.set_ord H1.out _) H.out.at_)
  · have e1 : opD B ls nd kd 3 14 s = .ok { s with f := { s.f with ord := -2 } } := by rw [opD_3, if_neg k2, if_pos (by decide), if_neg (by decide)]; rfl
    rw [e1]
    have x4 : W.cell? ⟨b, 26, none⟩ = some (.int .u8 14) := Brd.c_imm h1
    have hw1 : IntKind.i8.wrap 224 = -32 := by decide
    have hw2 : wrap64 (-2) = -2 := by unfold wrap64; omega
    have hw3 : wrap64 ((-32 : Int) / 16) = -2 := by unfold wrap64; omega
    have H := Lib.hid h
    have H1 := Lib.hid h1
    have H2 := Lib.hid h2
    have K2 := Lib.hid k2
    have E1 := Lib.hid e1
    clear h h1 h2 k2 e1
    go_enter Tryz.func51, Tryz.ntmps51
    go_wp2_with fail
    refine (refuse_ok 14 _).mono ?_
    rintro e WP ⟨rfl, rfl⟩
    go_wp2_with fail
    refine (refuse_ok 22 _).mono ?_
    rintro e WP ⟨rfl, rfl⟩
    go_wp2
    go_end0
    exact outD_ok (H.out.set hw H1.out H2.out ((Chg.refl [b] _).setCell _ _ (.inl (by simp))) rfl rfl (Brd.set_ord H1.out _) H.out.at_)
  · have e1 : opD B ls nd kd 3 15 s = .ok { s with f := { s.f with ord := -1 } } := by rw [opD_3, if_neg k2, if_pos (by decide), if_neg (by decide)]; rfl
    rw [e1]
    have x4 : W.cell? ⟨b, 26, none⟩ = some (.int .u8 15) := Brd.c_imm h1
    have hw1 : IntKind.i8.wrap 240 = -16 := by decide
    have hw2 : wrap64 (-1) = -1 := by unfold wrap64; omega
    have hw3 : wrap64 ((-16 : Int) / 16) = -1 := by unfold wrap64; omega
    have H := Lib.hid h
    have H1 := Lib.hid h1
    have H2 := Lib.hid h2
    have K2 := Lib.hid k2
    have E1 := Lib.hid e1
    clear h h1 h2 k2 e1
    go_enter Tryz.func51, Tryz.ntmps51
    go_wp2_with fail
    refine (refuse_ok 14 _).mono ?_
    rintro e WP ⟨rfl, rfl⟩
    go_wp2_with fail
    refine (refuse_ok 22 _).mono ?_
    rintro e WP ⟨rfl, rfl⟩
    go_wp2
    go_end0
    exact outD_ok (H.out.set hw H1.out H2.out ((Chg.refl [b] _).setCell _ _ (.inl (by simp))) rfl rfl (Brd.set_ord H1.out _) H.out.at_)
  · have e1 : opD B ls nd kd 3 im s = .bad 22 := by rw [opD_3, if_neg k2, if_neg (by omega)]
    rw [e1]
    have x4 : W.cell? ⟨b, 26, none⟩ = some (.int .u8 (im : Int)) := Brd.c_imm h1
    have hn : ∃ q r : Int, IntKind.i8.wrap (IntKind.u8.wrap ((im : Int) * 16)) = q ∧ q / 16 = r ∧ (0 < r ∨ r < -3) := by
      rcases hc with rfl | rfl | rfl | rfl | rfl | rfl | rfl | rfl | rfl | rfl | rfl | rfl <;> exact ⟨_, _, rfl, rfl, by decide⟩
    clear hn
    rcases hc with rfl | rfl | rfl | rfl | rfl | rfl | rfl | rfl | rfl | rfl | rfl | rfl
    all_goals
      have H := Lib.hid h
      have H1 := Lib.hid h1
      have H2 := Lib.hid h2
      have K2 := Lib.hid k2
      have w1 : IntKind.i8.wrap 128 = -128 := by decide
      have w2 : IntKind.i8.wrap 144 = -112 := by decide
      have w3 : IntKind.i8.wrap 160 = -96 := by decide
      have w4 : IntKind.i8.wrap 176 = -80 := by decide
      have w5 : IntKind.i8.wrap 192 = -64 := by decide
      have w6 : wrap64 ((-128 : Int) / 16) = -8 := by unfold wrap64; omega
      have w7 : wrap64 ((-112 : Int) / 16) = -7 := by unfold wrap64; omega
      have w8 : wrap64 ((-96 : Int) / 16) = -6 := by unfold wrap64; omega
      have w9 : wrap64 ((-80 : Int) / 16) = -5 := by unfold wrap64; omega
      have w10 : wrap64 ((-64 : Int) / 16) = -4 := by unfold wrap64; omega
      clear h h1 h2 k2 e1
      go_enter Tryz.func51, Tryz.ntmps51
      go_wp2_with fail
      refine (refuse_ok 14 _).mono ?_
      rintro e WP ⟨rfl, rfl⟩
      go_wp2_with fail
      refine (refuse_bad 22 _).mono ?_
      rintro e WP ⟨rfl, rfl⟩
      exact ⟨rfl, outD_bad H.out.chg⟩
end
end Go.Proofs.YtkomocgodljecaaGreatDoor
