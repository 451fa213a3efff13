/- Lemmas, laid together: part 37 of 40. Conditions: none but each lemma's own. -/
import Derived.Test.YtkomocgodljecaaGreatDoorJ36
import Derived.Test.YtkomocgodljecaaGreatDoorJ19
import Derived.Test.YtkomocgodljecaaGreatDoorJ34
import Derived.Test.YtkomocgodljecaaGreatDoorJ35
import Derived.Test.YtkomocgodljecaaGreatDoorJ3
import Derived.Test.YtkomocgodljecaaGreatDoorProg
import Derived.Lib.Strings
import Derived.Laws.BitsAllLaws
/- clevislaw14.known. -/
namespace Go.Proofs.YtkomocgodljecaaGreatDoor
open Go.RowKit
set_option maxRecDepth 100000

def img14 (sg dp : SlV) : Img := { Img.zero with kind := 2, segs := sg, deps := dp }
theorem two_rd {W1 W2 : World} {oD : Obj} {cs : Array Value} {E : TypeId} {S : List Nat} (ls : List Seg) (hcs : cs.toList = segL.vals ls) (hl : ls.length ≤ maxLen) (k : Chg S ((W1.alloc oD).alloc (.cells cs E)) W2) (hS : W1.heap.size + 1 ∉ S) : segL.Rd W2 (.slice (some ⟨W1.heap.size + 1, 0, none⟩) ls.length ls.length) ls := by
  have h := Lay.Rd.of_heap (L := segL) (heap_alloc_eq (W1.alloc oD) (.cells cs E)) hcs rfl hl
  rw [show (W1.alloc oD).heap.size = W1.heap.size + 1 by simp] at h
  exact h.frameS k (fun b hb hm => by cases hb; exact hS hm)
set_option maxHeartbeats 2000000 in
theorem two14_any (w : World) : Calls Tryz.prog 13 #[] w fun e w' => ∃ sb db, e = .returned (imgL.val (img14 ⟨some ⟨sb, 0, none⟩, 2, 2⟩ ⟨some ⟨db, 0, none⟩, 1, 1⟩)) ∧ segL.Rd w' (.slice (some ⟨sb, 0, none⟩) 2 2) tw4 ∧ Chg [] w w' ∧ sb < w'.heap.size := by
  go_enter Tryz.func13, Tryz.ntmps13
  go_wp2_with ((with_reducible refine Lay.alL Tryz.tImg ?_); intro W1 br ebr cbr xbr; replace ebr := Lib.hid ebr; replace cbr := Lib.hid cbr; replace xbr := Lib.hid xbr; refine Hid.out ?_)
  refine Lib.hid ?_
  go_wp2_with ((with_reducible refine Lay.stL Tryz.tImg (img14 ⟨some ⟨W1.heap.size + 1, 0, none⟩, 2, 2⟩ ⟨some ⟨W1.heap.size, 0, none⟩, 1, 1⟩) (((xbr.out.alloc _).alloc _)) ?_ ?_ ?_); exact rfl; exact rfl; intro W2 cW2 xW2; replace cW2 := Lib.hid cW2; replace xW2 := Lib.hid xW2; refine Hid.out ?_)
  refine Lib.hid ?_
  have hlt := xbr.out.lt
  have HR := Lib.hid (two_rd tw4 rfl (by decide) cW2.out (by simp; omega))
  go_wp2
  refine Lay.ret1 Tryz.tImg Tryz.results13 xW2.out rfl rfl ?_
  have hsb := HR.out.cells.2 0 _ rfl
  exact ⟨_, _, rfl, HR.out, ((cbr.out.alloc _).alloc _).new cW2.out (by rw [ebr.out]; exact Nat.le_refl _), World.block_lt_of_cell? _ _ hsb⟩
theorem slv_eqB {so : SlV} {a : Option Addr} {n c : Nat} (h : so.v = .slice a n c) : so = ⟨a, n, c⟩ := by
  obtain ⟨a', n', c'⟩ := so
  unfold SlV.v at h
  injection h with h1 h2 h3
  dsimp only at h1 h2 h3
  rw [h1, h2, h3]
set_option maxHeartbeats 4000000 in
theorem known14 (w : World) (hw : Env w) : Calls Tryz.prog 6 #[] w fun e w' => e = .returned (.bool true) ∧ Chg [] w w' := by
  have he : ∀ W : World, (binOp .eql 53 (.agg #[.int .u64 4096, .int .i64 2, .int .u64 0, .int .i64 1, .string ⟨#[95, 97]⟩, .int .i64 0, .bool false]) (.agg #[.int .u64 4096, .int .i64 2, .int .u64 0, .int .i64 1, .string ⟨#[95, 97]⟩, .int .i64 0, .bool false])).run Tryz.prog W = .ok (.bool true) W := by
    intro W
    kernel_rfl
  have he2 : ∀ W : World, (binOp .eql 53 (.agg (fxl.f fD3).toArray) (.agg #[.int .u64 4096, .int .i64 2, .int .u64 0, .int .i64 1, .string ⟨#[95, 97]⟩, .int .i64 0, .bool false])).run Tryz.prog W = .ok (.bool true) W := he
  have Hw := Lib.hid hw
  clear hw
  go_enter Tryz.func6, Tryz.ntmps6
  go_wp2_with fail
  refine (two14_any w).mono ?_
  rintro e W3 ⟨sb, db, rfl, hs, hc, hsb⟩
  have C3 := Lib.hid (hc)
  have S3 := Lib.hid hs
  clear hs
  clear hc
  have D3 : Hid (BIn (W3.alloc (.cells #[.int .u8 17, .int .u8 64, .int .u8 95, .int .u8 97, .int .u8 0, .int .u8 113, .int .u8 0, .int .u8 144, .int .u8 0] 5)) (img14 ⟨some ⟨sb, 0, none⟩, 2, 2⟩ ⟨some ⟨db, 0, none⟩, 1, 1⟩) tw4) := by
    refine Lib.hid ?_
    refine ⟨tw4B, S3.out.frame ((Chg.refl _ _).alloc _), fun k hk => ?_⟩
    cases hk
    exact Nat.lt_of_lt_of_le hsb ((Chg.refl [] W3).alloc _).size
  go_wp2_with fail
  refine (Decode_b1 _ (Hw.out.frame (C3.out.alloc _) (by simp)) (img14 ⟨some ⟨sb, 0, none⟩, 2, 2⟩ ⟨some ⟨db, 0, none⟩, 1, 1⟩) D3.out rfl _ (Rd_of_byte (Lay.Rd.of_heap (ls := dB) (heap_alloc_eq _ _) rfl rfl (by decide)))).mono ?_
  rintro e W4 ⟨so, rfl, hc, hb⟩
  have C4 : Hid (Chg [] w W4) := Lib.hid ((C3.out.alloc _).then hc)
  obtain ⟨g2, cap2, he0, _, _, _, _, _, _, _⟩ := hb.at (by decide)
  obtain rfl := slv_eqB he0
  rw [show d14l.length = 1 from rfl] at hb ⊢
  have R4 : Hid (fxl.Rd W4 (.slice (some ⟨g2, 0, none⟩) 1 cap2) d14l) := Lib.hid (hb.rd)
  clear hb he0 hc D3 S3 C3 hsb
  unfold SlV.v
  go_wp2_with fail
  refine (two14_any W4).mono ?_
  rintro e W5 ⟨sb5, db5, rfl, hs, hc, hsb⟩
  have C5 := Lib.hid (C4.out.then hc)
  have R5 := Lib.hid (R4.out.frame hc)
  have S5 := Lib.hid hs
  clear hs
  clear hc R4
  have D5 : Hid (BIn (W5.alloc (.cells #[.int .u8 113, .int .u8 0, .int .u8 144] 5)) (img14 ⟨some ⟨sb5, 0, none⟩, 2, 2⟩ ⟨some ⟨db5, 0, none⟩, 1, 1⟩) tw4) := by
    refine Lib.hid ?_
    refine ⟨tw4B, S5.out.frame ((Chg.refl _ _).alloc _), fun k hk => ?_⟩
    cases hk
    exact Nat.lt_of_lt_of_le hsb ((Chg.refl [] W5).alloc _).size
  go_wp2_with fail
  refine (Decode_b2 _ (Hw.out.frame (C5.out.alloc _) (by simp)) (img14 ⟨some ⟨sb5, 0, none⟩, 2, 2⟩ ⟨some ⟨db5, 0, none⟩, 1, 1⟩) D5.out _ (Rd_of_byte (Lay.Rd.of_heap (ls := [113, 0, 144]) (heap_alloc_eq _ _) rfl rfl (by decide)))).mono ?_
  rintro e W6 ⟨rfl, hc⟩
  have C6 := Lib.hid ((C5.out.alloc _).then hc)
  have R6 := Lib.hid (R5.out.frame (((Chg.refl [] W5).alloc _).then hc))
  clear hc R5 D5 S5 hsb
  go_wp2_with fail
  refine (two14_any W6).mono ?_
  rintro e W7 ⟨sb7, db7, rfl, hs, hc, _⟩
  have C7 := Lib.hid (C6.out.then hc)
  have R7 := Lib.hid (R6.out.frame hc)
  have S7 := Lib.hid hs
  clear hs
  clear hc R6
  go_wp2_with fail
  refine (Make_d (img14 ⟨some ⟨sb7, 0, none⟩, 2, 2⟩ ⟨some ⟨db7, 0, none⟩, 1, 1⟩) sb7 rfl rfl (.slice (some ⟨g2, 0, none⟩) 1 cap2) W7 S7.out (fx_ofL R7.out)).mono ?_
  rintro e W8 ⟨s8, rfl, hb, hc⟩
  have C8 := Lib.hid (C7.out.then hc)
  have hI : fxl.In W8 g2 0 fD3 := by
    obtain ⟨b, off, e, _, h⟩ := (R7.out.frame hc).at (by decide)
    cases e
    have := h 0 (by decide)
    rwa [Nat.zero_mul, Nat.zero_add] at this
  obtain ⟨a8, c8, he0, _⟩ := hb.rd.shape
  obtain rfl := slv_eqB he0
  have hs1 := run_strB hb.rd
  rw [show dB.length = 9 from rfl] at hs1 ⊢
  rw [show (⟨dB.toArray⟩ : ByteArray) = ⟨#[17, 64, 95, 97, 0, 113, 0, 144, 0]⟩ from rfl] at hs1
  have HI := Lib.hid hI
  clear hI
  clear hb hc R7 S7 he0
  unfold SlV.v
  go_wp2_with ((with_reducible refine Lay.ldG2 Tryz.tFx fD3 (HI.out) ?_ ?_ ?_); exact rfl; exact rfl; refine Hid.out ?_)
  refine Lib.hid ?_
  go_wp2
  go_ret
  exact ⟨rfl, C8.out⟩
end Go.Proofs.YtkomocgodljecaaGreatDoor
/- clevislaw14.BindMakes, walked. -/
namespace Go.Proofs.YtkomocgodljecaaGreatDoor
open Go.RowKit
set_option maxRecDepth 100000

set_option maxHeartbeats 8000000 in
theorem BindMakes_core (W : World) (hg : Env W) (m : Img) (ls : List Seg) (rd : segL.Rd W m.segs.v ls) (hls : SegsB ls) (K : Int) (l : List Fx) (a : Option Addr) (cap : Nat) (rl : FxRd W (.slice a l.length cap) l) (hat : ∀ f ∈ l, (0 ≤ f.at_ ∧ f.at_ < 18446744073709551616) ∧ -9223372036854775808 ≤ f.add ∧ f.add < 9223372036854775808) :
    Calls Tryz.prog 3 #[imgL.val m, .int .i64 K, .slice a l.length cap] W fun e W' => e = .returned (.bool true) ∧ Chg [] W W' := by
  have HK := Lib.hid (fun W hg => known14 W hg)
  have HMU := Lib.hid (fun w rd => Much_any m ls w rd)
  obtain ⟨sa, scap, hv, _, _⟩ := rd.shape
  unfold SlV.v at hv
  have RD := Lib.hid rd
  have HLS := Lib.hid hls
  have RL := Lib.hid rl
  have HAT := Lib.hid hat
  have Hg := Lib.hid hg
  clear rd hls rl hat hg
  go_enter Tryz.func3, Tryz.ntmps3
  go_wp2_with ((with_reducible refine Lay.bxL (L := imgL) 30 m ?_ ?_); exact rfl; intro W1 bm ebm cbm xbm; replace ebm := Lib.hid ebm; replace cbm := Lib.hid cbm; replace xbm := Lib.hid xbm; refine Hid.out ?_)
  refine Lib.hid ?_
  go_wp2_with ((with_reducible refine Lay.ldL Tryz.tImg m (xbm.out.in) ?_ ?_); exact rfl; refine Hid.out ?_)
  refine Lib.hid ?_
  go_wp2_with fail
  refine (HMU.out _ (RD.out.frame cbm.out)).mono ?_
  unfold MuchP
  rintro e W2 ⟨b, rfl, hch, hb⟩
  have C12 := Lib.hid (hch)
  have C2 : Hid (Chg [] W W2) := Lib.hid (cbm.out.then hch)
  clear hch
  have X2 := Lib.hid (xbm.out.frame C12.out)
  have x4 := Img.c_segs X2.out
  rw [hv] at x4
  cases b with
  | true =>
    clear hb
    go_wp2_with fail
    refine (HK.out _ (Hg.out.frame C2.out (by simp))).mono ?_
    rintro e WK ⟨rfl, hk⟩
    have Hk := Lib.hid hk
    clear hk
    go_wp2
    go_ret
    exact ⟨rfl, (C2.out).then Hk.out⟩
  | false =>
    obtain ⟨hb1, hb2⟩ := hb rfl
    by_cases c1 : 16 < ls.length
    · have d1 : decide ((16 : Int) < (ls.length : Int)) = true := decide_eq_true (by omega)
      have Hb1 := Lib.hid hb1
      have Hb2 := Lib.hid hb2
      have KC1 := Lib.hid c1
      clear hb1 hb2 c1
      go_wp2_with fail
      refine (HK.out _ (Hg.out.frame C2.out (by simp))).mono ?_
      rintro e WK ⟨rfl, hk⟩
      have Hk := Lib.hid hk
      clear hk
      go_wp2
      go_ret
      exact ⟨rfl, (C2.out).then Hk.out⟩
    · have d1 : decide ((16 : Int) < (ls.length : Int)) = false := decide_eq_false (by omega)
      by_cases c2 : 100 < l.length
      · have d2 : decide ((100 : Int) < (l.length : Int)) = true := decide_eq_true (by omega)
        have Hb1 := Lib.hid hb1
        have Hb2 := Lib.hid hb2
        have KC1 := Lib.hid c1
        have KC2 := Lib.hid c2
        clear hb1 hb2 c1 c2
        go_wp2_with fail
        refine (HK.out _ (Hg.out.frame C2.out (by simp))).mono ?_
        rintro e WK ⟨rfl, hk⟩
        have Hk := Lib.hid hk
        clear hk
        go_wp2
        go_ret
        exact ⟨rfl, (C2.out).then Hk.out⟩
      · have d2 : decide ((100 : Int) < (l.length : Int)) = false := decide_eq_false (by omega)
        have HA := Lib.hid (fun w rd hl => BMake_any m K m.deps.n rfl ls HLS.out (by omega) l (by omega) HAT.out (.slice a l.length cap) w rd hl)
        have HB := Lib.hid (fun w rd hl => RBMake_any m K m.deps.n rfl ls HLS.out (by omega) l (by omega) HAT.out (.slice a l.length cap) w rd hl)
        unfold BMakeP at HA HB
        obtain ⟨E, hE⟩ : ∃ E, E = mayBE K m.deps.n ls (setF l) := ⟨_, rfl⟩
        obtain ⟨A, hA⟩ : ∃ A, A = allN ls K (setF l) := ⟨_, rfl⟩
        rw [← hE, ← hA] at HA HB
        have Hb1 := Lib.hid hb1
        have Hb2 := Lib.hid hb2
        have KC1 := Lib.hid c1
        have KC2 := Lib.hid c2
        have HEE := Lib.hid hE
        have HAA := Lib.hid hA
        clear hb1 hb2 c1 c2 hE hA
        go_wp2_with ((with_reducible refine Lay.ldL Tryz.tImg m (X2.out.in) ?_ ?_); exact rfl; refine Hid.out ?_)
        refine Lib.hid ?_
        clear x4
        go_wp2_with fail
        refine (HA.out _ (RD.out.frame C2.out) (RL.out.frame C2.out)).mono ?_
        rintro e W3 ⟨s1, rfl, hc3, h0, h1⟩
        have C3 : Hid (Chg [] W W3) := Lib.hid (C2.out.then hc3)
        have X3 := Lib.hid (X2.out.frame hc3)
        have e1 : E = 0 → byteL.Rd W3 s1.v A := fun h => (h0 h).rd
        have E1 := Lib.hid e1
        have H1 := Lib.hid h1
        clear e1 h1
        clear h0 hc3
        unfold SlV.v
        go_wp2_with ((with_reducible refine Lay.ldL Tryz.tImg m (X3.out.in) ?_ ?_); exact rfl; refine Hid.out ?_)
        refine Lib.hid ?_
        go_wp2_with fail
        refine (HB.out _ (RD.out.frame C3.out) (RL.out.frame C3.out)).mono ?_
        rintro e W4 ⟨s2, rfl, hc4, h0, h2⟩
        have C4 : Hid (Chg [] W W4) := Lib.hid (C3.out.then hc4)
        have e2 : E = 0 → byteL.Rd W4 s2.v A := fun h => (h0 h).rd
        have e3 : E = 0 → byteL.Rd W4 s1.v A := fun h => (E1.out h).frame hc4
        have E2 := Lib.hid e2
        have E3 := Lib.hid e3
        have H2 := Lib.hid h2
        clear e2 e3 h2
        clear h0 hc4 X2 X3 E1
        unfold SlV.v
        by_cases hE0 : E = 0
        · have q1 := E3.out hE0
          have q2 := E2.out hE0
          have hs1 := run_strB q1
          have hs2 := run_strB q2
          subst hE0
          clear q1 q2
          go_wp2_with fail
          refine (HK.out _ (Hg.out.frame C4.out (by simp))).mono ?_
          rintro e WK ⟨rfl, hk⟩
          have Hk := Lib.hid hk
          clear hk
          go_wp2
          go_ret
          exact ⟨rfl, (C4.out).then Hk.out⟩
        · obtain rfl := H1.out hE0
          obtain rfl := H2.out hE0
          have hn : (convert 34 9 (.slice none 0 0)).run Tryz.prog W4 = .ok (.string ⟨([] : List UInt8).toArray⟩) W4 := run_strB (Lay.Rd.nil _)
          have ee : (E == E) = true := by simp
          have HE0 := Lib.hid hE0
          clear hE0
          go_wp2_with fail
          refine (HK.out _ (Hg.out.frame C4.out (by simp))).mono ?_
          rintro e WK ⟨rfl, hk⟩
          have Hk := Lib.hid hk
          clear hk
          go_wp2
          go_ret
          exact ⟨rfl, (C4.out).then Hk.out⟩
end Go.Proofs.YtkomocgodljecaaGreatDoor
/- Records: imports (printed by mkrecs.sh). -/
namespace Go.Proofs.YtkomocgodljecaaGreatDoor
open Go.RowKit
set_option maxRecDepth 100000

/-- A record Imp. -/
structure Imp where
  ord : Int
  weak : Bool
  sym : ByteArray
  add : Int
def Imp.cells (s : Imp) : List Value := [.int .i64 s.ord, .bool s.weak, .string s.sym, .int .i64 s.add]
abbrev Imp.v (s : Imp) : Value := .agg #[.int .i64 s.ord, .bool s.weak, .string s.sym, .int .i64 s.add]
/-- Its numbers are of their kinds. -/
def Imp.wf (s : Imp) : Prop := (Lit.int .i64 s.ord).wf = true ∧ (Lit.int .i64 s.add).wf = true
def Imp.zero : Imp := ⟨0, false, ⟨#[]⟩, 0⟩
def impL : Lay Imp := ⟨4, Imp.cells, Imp.zero, fun _ => rfl, by decide, fun x u hu => by
  simp only [Imp.cells, List.mem_cons, List.not_mem_nil, or_false] at hu
  rcases hu with rfl | rfl | rfl | rfl <;> rfl⟩
theorem Imp.at {w : World} {b o : Nat} {s : Imp} (h : impL.In w b o s) : w.cell? ⟨b, o, none⟩ = some (.int .i64 s.ord) ∧ w.cell? ⟨b, o + 1, none⟩ = some (.bool s.weak) ∧ w.cell? ⟨b, o + 2, none⟩ = some (.string s.sym) ∧ w.cell? ⟨b, o + 3, none⟩ = some (.int .i64 s.add) :=
  ⟨h 0 (by decide), h 1 (by decide), h 2 (by decide), h 3 (by decide)⟩
/-- A record in a block of its own: made, written, a field written. -/
theorem Imp.box (w : World) (s : Imp) (T : TypeId) : impL.Box (w.alloc (.cells #[.int .i64 s.ord, .bool s.weak, .string s.sym, .int .i64 s.add] T)) w.heap.size s := Lay.Box.of_alloc (L := impL) w s T
theorem Imp.put0 {w : World} {g : Nat} {y : Imp} (h : impL.Box w g y) (s : Imp) : impL.Box ((((w.setCell ⟨g, 0, none⟩ (.int .i64 s.ord)).setCell ⟨g, 1, none⟩ (.bool s.weak)).setCell ⟨g, 2, none⟩ (.string s.sym)).setCell ⟨g, 3, none⟩ (.int .i64 s.add)) g s := Lay.Box.put h s
theorem Imp.set_ord {w : World} {g : Nat} {s : Imp} (h : impL.Box w g s) (x : Int) : impL.Box (w.setCell ⟨g, 0, none⟩ (.int .i64 x)) g { s with ord := x } := Lay.Box.set h 0 _ _ rfl
theorem Imp.set_weak {w : World} {g : Nat} {s : Imp} (h : impL.Box w g s) (x : Bool) : impL.Box (w.setCell ⟨g, 1, none⟩ (.bool x)) g { s with weak := x } := Lay.Box.set h 1 _ _ rfl
theorem Imp.set_sym {w : World} {g : Nat} {s : Imp} (h : impL.Box w g s) (x : ByteArray) : impL.Box (w.setCell ⟨g, 2, none⟩ (.string x)) g { s with sym := x } := Lay.Box.set h 2 _ _ rfl
theorem Imp.c_ord {w : World} {b : Nat} {s : Imp} (h : impL.Box w b s) : w.cell? ⟨b, 0, none⟩ = some (.int .i64 s.ord) := by have := h.in 0 (by decide); rw [Nat.zero_add] at this; exact this
theorem Imp.c_weak {w : World} {b : Nat} {s : Imp} (h : impL.Box w b s) : w.cell? ⟨b, 1, none⟩ = some (.bool s.weak) := by have := h.in 1 (by decide); rw [Nat.zero_add] at this; exact this
theorem Imp.c_sym {w : World} {b : Nat} {s : Imp} (h : impL.Box w b s) : w.cell? ⟨b, 2, none⟩ = some (.string s.sym) := by have := h.in 2 (by decide); rw [Nat.zero_add] at this; exact this
theorem Imp.ext' {s r : Imp} (h0 : s.ord = r.ord) (h1 : s.weak = r.weak) (h2 : s.sym = r.sym) (h3 : s.add = r.add) : s = r := by
  cases s; cases r; simp only at h0 h1 h2 h3; subst h0 h1 h2 h3; rfl
instance : DecidableEq Imp := fun s r => decidable_of_iff (s.ord = r.ord ∧ s.weak = r.weak ∧ s.sym = r.sym ∧ s.add = r.add) ⟨fun h => Imp.ext' h.1 h.2.1 h.2.2.1 h.2.2.2, fun h => by rw [h]; exact ⟨rfl, rfl, rfl, rfl⟩⟩
end Go.Proofs.YtkomocgodljecaaGreatDoor
/- chain.bytes: an import's bytes (formats 1 and 2). -/
namespace Go.Proofs.YtkomocgodljecaaGreatDoor
open Go.RowKit
set_option maxRecDepth 100000

def u64N (z : Int) : Nat := (z % 18446744073709551616).toNat
/-- An import's word of 4 bytes, its name at a place. -/
def impW (x : Imp) (name : Nat) : Nat := u64N x.ord % 256 + (if x.weak then 256 else 0) + name * 512
/-- An import's bytes, in the formats 1 and 2. -/
def impB (x : Imp) (name : Nat) (fmt : Int) : List UInt8 := leB (impW x name) 4 ++ (if fmt = 2 then leB (u64N x.add) 4 else [])
end Go.Proofs.YtkomocgodljecaaGreatDoor
