/- chain: which ordinals may be; what reads imports of a format; starts of none. -/
import Derived.Test.YtpnldfinobnpoaaGreatDoorIBytes
import Derived.Test.YtpnldfinobnpoaaGreatDoorAppStr
import Derived.Test.YtpnldfinobnpoaaGreatDoorFmt
import Derived.Test.YtpnldfinobnpoaaGreatDoorRecs
import Derived.Test.YtpnldfinobnpoaaGreatDoorRecChn
import Derived.Test.YtpnldfinobnpoaaGreatDoorShelfC
import Derived.Laws.MakeOwn
namespace Go.Proofs.YtpnldfinobnpoaaGreatDoor
open Go.RowKit
set_option maxRecDepth 100000

theorem Tryz.tImg : Lay.Ty imgL Tryz.prog 30 := Lay.Ty.mk' (by kernel_rfl) (by kernel_rfl)
theorem Tryz.tImp : Lay.Ty impL Tryz.prog 71 := Lay.Ty.mk' (by kernel_rfl) (by kernel_rfl)
theorem Tryz.tChn : Lay.Ty chnL Tryz.prog 51 := Lay.Ty.mk' (by kernel_rfl) (by kernel_rfl)
/-- May an import have an ordinal, of so many dependencies? -/
def ordB (n : Int) (d : Nat) : Bool := decide (-3 ≤ n) && decide (n ≤ (d : Int))
theorem ordinal_any (n : Int) (m : Img) (w : World) : Calls Tryz.prog 31 #[.int .i64 n, imgL.val m] w fun e w' => e = .returned (.bool (ordB n m.deps.n)) ∧ Chg [] w w' := by
  unfold ordB
  by_cases h1 : -3 ≤ n
  · have d1 : decide (-3 ≤ n) = true := by simpa using h1
    rw [d1]
    have H1 := Lib.hid h1
    clear h1
    go_enter Tryz.func31, Tryz.ntmps31
    go_wp2_with ((with_reducible refine Lay.bxL (L := imgL) 30 m ?_ ?_); exact rfl; intro W1 bm ebm cbm xbm; replace ebm := Lib.hid ebm; replace cbm := Lib.hid cbm; replace xbm := Lib.hid xbm; refine Hid.out ?_)
    refine Lib.hid ?_
    have x5 := Img.c_deps xbm.out
    go_wp2
    go_ret
    exact ⟨rfl, cbm.out⟩
  · have d1 : decide (-3 ≤ n) = false := by simpa using h1
    rw [d1]
    have H1 := Lib.hid h1
    clear h1
    go_enter Tryz.func31, Tryz.ntmps31
    go_wp2_with ((with_reducible refine Lay.bxL (L := imgL) 30 m ?_ ?_); exact rfl; intro W1 bm ebm cbm xbm; replace ebm := Lib.hid ebm; replace cbm := Lib.hid cbm; replace xbm := Lib.hid xbm; refine Hid.out ?_)
    refine Lib.hid ?_
    go_wp2
    go_ret
    exact ⟨rfl, cbm.out⟩
/-- What reads imports of a format. -/
def rdF : Int → Option Value := Map.put (Map.put (Map.put (fun _ => none) 1 (.func (.func 70) #[] #[])) 2 (.func (.func 71) #[] #[])) 3 (.func (.func 72) #[] #[])
theorem Tryz.tRdC : Map.Ty (Map.intK .u64) Tryz.prog 88 .nilFunc := ⟨26, 87, by kernel_rfl, by kernel_rfl, fun w => by kernel_rfl⟩
theorem readers_any (w : World) : Calls Tryz.prog 27 #[] w fun e w' => ∃ b, e = .returned (.map (some b)) ∧ Map.Is (Map.intK .u64) w' b rdF ∧ Chg [] w w' := by
  go_enter Tryz.func27, Tryz.ntmps27
  go_wp2_with ((with_reducible refine Map.mkL (Map.intK .u64) 88 ?_); intro W2 bq ebq cbq mbq; replace ebq := Lib.hid ebq; replace cbq := Lib.hid cbq; replace mbq := Lib.hid mbq; refine Hid.out ?_)
  refine Lib.hid ?_
  go_wp2_with ((with_reducible refine Map.insL Tryz.tRdC (mbq.out) 1 (.func (.func 70) #[] #[]) ?_ ?_ ?_ ?_); exact rfl; exact rfl; exact rfl; intro W3 cW3 mW3; replace cW3 := Lib.hid cW3; replace mW3 := Lib.hid mW3; refine Hid.out ?_)
  refine Lib.hid ?_
  go_wp2_with ((with_reducible refine Map.insL Tryz.tRdC (mW3.out) 2 (.func (.func 71) #[] #[]) ?_ ?_ ?_ ?_); exact rfl; exact rfl; exact rfl; intro W4 cW4 mW4; replace cW4 := Lib.hid cW4; replace mW4 := Lib.hid mW4; refine Hid.out ?_)
  refine Lib.hid ?_
  go_wp2_with ((with_reducible refine Map.insL Tryz.tRdC (mW4.out) 3 (.func (.func 72) #[] #[]) ?_ ?_ ?_ ?_); exact rfl; exact rfl; exact rfl; intro W5 cW5 mW5; replace cW5 := Lib.hid cW5; replace mW5 := Lib.hid mW5; refine Hid.out ?_)
  refine Lib.hid ?_
  go_wp2
  go_ret
  have hsz : w.heap.size ≤ bq := by rw [ebq.out]; exact Nat.le_refl _
  exact ⟨bq, rfl, mW5.out, ((cbq.out.new cW3.out hsz).new cW4.out hsz).new cW5.out hsz⟩
theorem may_nil (a : Option Addr) (cap : Nat) (m : Img) (w : World) : Calls Tryz.prog 61 #[.slice a 0 cap, imgL.val m] w fun e w' => e = .returned (.bool true) ∧ Chg [] w w' := by
  go_enter Tryz.func61, Tryz.ntmps61
  go_wp2_with ((with_reducible refine Lay.bxL (L := imgL) 30 m ?_ ?_); exact rfl; intro W1 bm ebm cbm xbm; replace ebm := Lib.hid ebm; replace cbm := Lib.hid cbm; replace xbm := Lib.hid xbm; refine Hid.out ?_)
  refine Lib.hid ?_
  go_wp2_with fail
  go_loopw [13] (fun s13 wr => s13 = .int .i64 0 ∧ wr = W1) (fun _ _ => 0)
  case atStart => exact ⟨rfl, rfl⟩
  case round =>
    obtain ⟨rfl, rfl⟩ := hrel
    go_wp2
    go_ret
    exact ⟨rfl, cbm.out⟩
/-- Starts of none, laid: how many segments, and nothing for each. -/
def laid0 (n : Nat) : List UInt8 := leB n 4 ++ List.replicate (4 * n) 0
theorem leB_zero (k : Nat) : leB 0 k = List.replicate k 0 := by
  apply List.ext_getElem?
  intro j
  by_cases h : j < k <;> simp [leB, h]
theorem rep_append (a b : Nat) : List.replicate a (0 : UInt8) ++ List.replicate b 0 = List.replicate (a + b) 0 := by simp
def u64L : Lay Int := ⟨1, fun b => [.int .u64 b], 0, fun _ => rfl, by decide, fun x u hu => by
  simp only [List.mem_singleton] at hu
  subst hu
  rfl⟩
theorem Tryz.infoU64 : Lay.Info Tryz.prog 161 26 u64L.n 8 := Lay.Info.mk' (z := .int .u64 0) (by kernel_rfl) (by kernel_rfl) rfl
theorem zeros64 (w : World) (n : Nat) (hn : n ≤ 1048576) : ∃ o, (Instr.makeSlice 161 (.int .i64 (n : Int)) (.int .i64 (n : Int))).run Tryz.prog w = .ok (.slice (some ⟨w.heap.size, 0, none⟩) n n) (w.alloc o) ∧
    u64L.Rd (w.alloc o) (.slice (some ⟨w.heap.size, 0, none⟩) n n) (List.replicate n 0) := by
  obtain ⟨i, z, hi, hz, hz1, hz2, hz3⟩ := Tryz.infoU64.i
  replace hz1 : i.size = 1 := hz1
  have hz' : i.zero = some (.int .u64 0) := by
    have e : (Tryz.prog.info? 26).map (fun i => i.zero) = some (some (.int .u64 0)) := by kernel_rfl
    rw [hi] at e
    simpa using e
  have hb : (i.bytes : Int) * (n : Int) ≤ 281474976710656 := by rw [hz2]; omega
  have hr := run_make (P := Tryz.prog) w 161 26 i (.int .u64 0) Tryz.infoU64.u hi hz' .i64 .i64 n n (by omega) (by omega) hb (by omega)
  simp only [Int.toNat_natCast] at hr
  refine ⟨_, hr, Lay.Rd.of_heap (E := 26) (fz := (0, 0)) (heap_alloc_eq w _) ?_ (by simp) (by simp; unfold maxLen; omega)⟩
  rw [hz1, Nat.mul_one]
  have hv : ∀ k, u64L.vals (List.replicate k 0) = List.replicate k (Value.int .u64 0) := by
    intro k
    induction k with
    | zero => rfl
    | succ k ih => rw [List.replicate_succ, Lay.vals_cons, ih]; rfl
  rw [hv]
  apply List.ext_getElem?
  intro j
  by_cases hj : j < n <;> simp [madeCells, hj, Value.cells, Nat.mod_one]
set_option maxHeartbeats 2000000 in
theorem laid_nil (a : Option Addr) (cap : Nat) (m : Img) (n : Nat) (hn : n ≤ 1048576) (he : m.segs.n = n) (w : World) : Calls Tryz.prog 63 #[.slice a 0 cap, imgL.val m] w fun e w' => ∃ v, e = .returned v ∧ BB w' w.heap.size v (laid0 n) ∧ Chg [] w w' := by
  go_enter Tryz.func63, Tryz.ntmps63
  go_wp2_with ((with_reducible refine Lay.bxL (L := imgL) 30 m ?_ ?_); exact rfl; intro W1 bm ebm cbm xbm; replace ebm := Lib.hid ebm; replace cbm := Lib.hid cbm; replace xbm := Lib.hid xbm; refine Hid.out ?_)
  refine Lib.hid ?_
  have x4 := Img.c_segs xbm.out
  rw [he] at x4
  obtain ⟨o, hmk, hrd⟩ := zeros64 W1 n hn
  have C1 : Hid (Chg [] w (W1.alloc o)) := Lib.hid (cbm.out.alloc o)
  obtain ⟨B0, hB0⟩ : ∃ B0, B0 = (W1.alloc o).heap.size := ⟨_, rfl⟩
  have hp : W1.heap.size < B0 := by rw [hB0]; simp
  have hw0 : w.heap.size ≤ B0 := by rw [hB0]; exact C1.out.size
  have Hrd := Lib.hid hrd
  have HB0 := Lib.hid hB0
  clear hrd hB0
  go_wp2_with fail
  go_loopw [6, 21] (fun s6 s21 wr => s6 = .slice none 0 0 ∧ s21 = .int .i64 0 ∧ wr = W1.alloc o) (fun _ _ _ => 0)
  case atStart => exact ⟨rfl, rfl, rfl⟩
  case round =>
    obtain ⟨rfl, rfl, rfl⟩ := hrel
    go_wp2_with fail
    refine (put_any [] (.slice none 0 0) B0 n 4 (by decide) _ (Lay.Buf.nil _ _) (by decide) (by rw [HB0.out]; exact Nat.le_refl _)).mono ?_
    rintro e W2 ⟨v1, rfl, hb, hc, _⟩
    have B2 : Hid (BB W2 B0 v1 (leB n 4)) := Lib.hid (hb)
    have D2 : Hid (Chg [] (W1.alloc o) W2) := Lib.hid (hc)
    have R2 := Lib.hid (Hrd.out.frame hc)
    have C2 := Lib.hid (C1.out.then hc)
    have S2 : Hid (B0 ≤ W2.heap.size) := Lib.hid (by rw [HB0.out]; exact hc.size)
    clear hb hc
    go_wp2_with fail
    go_loopw [12, 93] (fun s12 s93 wr => ∃ k : Nat, k ≤ n ∧ s93 = .int .i64 (k : Int) ∧ BB wr B0 s12 (leB n 4 ++ List.replicate (4 * k) 0) ∧ Chg [] w wr ∧ B0 ≤ wr.heap.size ∧ u64L.Rd wr (.slice (some ⟨W1.heap.size, 0, none⟩) n n) (List.replicate n 0)) (fun _ s93 _ => n - (intOf s93).toNat)
    case atStart => exact ⟨0, Nat.zero_le _, rfl, by simpa using B2.out, C2.out, S2.out, R2.out⟩
    case round =>
      obtain ⟨k, hk, rfl, hu, hch, hsz, hrr⟩ := hrel
      have hlen : (leB n 4 ++ List.replicate (4 * k) (0 : UInt8)).length = 4 + 4 * k := by simp [leB_len]
      by_cases hlt : k < n
      · obtain ⟨b, off, hb0, hb, hcell⟩ := hrr.at (by simp; omega)
        cases hb0
        have hI := hcell k (by simpa using hlt)
        rw [show u64L.n = 1 from rfl, Nat.mul_one, Nat.zero_add] at hI
        have c0 : wr.cell? ⟨W1.heap.size, k, none⟩ = some (.int .u64 0) := by
          have := hI 0 (by decide)
          rw [Nat.add_zero] at this
          rw [this]
          simp [u64L, List.getD_eq_getElem?_getD, hlt]
        clear hI hcell
        have Hu := Lib.hid hu
        have Hch := Lib.hid hch
        have Hrr := Lib.hid hrr
        have Hlen := Lib.hid hlen
        have Hsz := Lib.hid hsz
        clear hu hch hrr hlen hsz
        go_wp2_with fail
        refine (put_any _ u12 B0 0 4 (by decide) _ Hu.out (by rw [Hlen.out]; omega) Hsz.out).mono ?_
        rintro e W3 ⟨v3, rfl, hb3, hc3, hl3⟩
        have B3 : Hid (BB W3 B0 v3 (leB n 4 ++ List.replicate (4 * (k + 1)) 0)) := by
          refine Lib.hid ?_
          rw [leB_zero, List.append_assoc, rep_append] at hb3
          exact hb3
        have C3 := Lib.hid (Hch.out.trans hc3 (fun i hi hw => by have := (Hu.out.lt i (by simpa using hi)).1; omega))
        have R3 := Lib.hid (Hrr.out.frameS hc3 (fun b hb hm => by have := (Hu.out.lt b (by simpa using hm)).1; simp [Value.ownBlock] at hb; omega))
        have S3 := Lib.hid (Nat.le_trans Hsz.out hc3.size)
        clear hb3 hc3 hl3
        go_wp2
        go_roundw
        case rel => exact ⟨k + 1, hlt, by go_num, B3.out, C3.out, S3.out, R3.out⟩
        case measure => simp [intOf]; omega
      · obtain rfl : k = n := by omega
        have Hu := Lib.hid hu
        have Hch := Lib.hid hch
        have Hrr := Lib.hid hrr
        have Hlen := Lib.hid hlen
        have Hsz := Lib.hid hsz
        clear hu hch hrr hlen hsz
        go_wp2_with (at_builtin; refine Lay.app (L := byteL) Tryz.infoByte rfl _ _ rfl B0 u12 (leB k 4 ++ List.replicate (4 * k) 0) rfl Hu.out _ rfl [] (Lay.Rd.nil _) (by rw [Hlen.out]; simp; omega) (by rw [Hlen.out]; simp; omega) Hsz.out ?_; intro v' wb hov hgv hlc; refine Hid.out ?_)
        refine Lib.hid ?_
        rw [List.append_nil] at hov
        have C3 := Lib.hid (Hch.out.trans (Lay.chg_grown hgv) (fun i hi hw => by have := (Hu.out.lt i (by simpa using hi)).1; omega))
        have Hov := Lib.hid hov
        clear hov
        clear hgv hlc
        go_wp2
        go_ret
        exact ⟨_, rfl, Hov.out.mono hw0, C3.out⟩
end Go.Proofs.YtpnldfinobnpoaaGreatDoor
