/- chain.Stride, chain.Format and the document's. -/
import Derived.Test.YtpnldfinobnpoaaGreatDoorRecImp
import Derived.Test.YtpnldfinobnpoaaGreatDoorOps
import Derived.Test.YtpnldfinobnpoaaGreatDoorMap
import Derived.Deep.CutRange
import Derived.StillTailTactics
import Derived.Handy
namespace Go.Proofs.YtpnldfinobnpoaaGreatDoor
open Go.RowKit
set_option maxRecDepth 100000

/-- The stride of a format. -/
def strideF (n : Int) : Int := if n = 12 then 8 else if n = 6 then 4 else if n = 2 then 4 else if n = 1 then 8 else 0
theorem Tryz.tStr : Map.Ty (Map.intK .i64) Tryz.prog 144 (.int .i64 0) := ⟨3, 3, by kernel_rfl, by kernel_rfl, fun w => by kernel_rfl⟩
theorem stride_any (n : Int) (w : World) : Calls Tryz.prog 37 #[.int .i64 n] w fun e w' => e = .returned (.int .i64 (strideF n)) ∧ Chg [] w w' := by
  go_enter Tryz.func37, Tryz.ntmps37
  go_wp2_with ((with_reducible refine Map.mkL (Map.intK .i64) 144 ?_); intro W2 bq ebq cbq mbq; replace ebq := Lib.hid ebq; replace cbq := Lib.hid cbq; replace mbq := Lib.hid mbq; refine Hid.out ?_)
  refine Lib.hid ?_
  go_wp2_with ((with_reducible refine Map.insL Tryz.tStr (mbq.out) 1 (.int .i64 8) ?_ ?_ ?_ ?_); exact rfl; exact rfl; exact rfl; intro W3 cW3 mW3; replace cW3 := Lib.hid cW3; replace mW3 := Lib.hid mW3; refine Hid.out ?_)
  refine Lib.hid ?_
  go_wp2_with ((with_reducible refine Map.insL Tryz.tStr (mW3.out) 2 (.int .i64 4) ?_ ?_ ?_ ?_); exact rfl; exact rfl; exact rfl; intro W4 cW4 mW4; replace cW4 := Lib.hid cW4; replace mW4 := Lib.hid mW4; refine Hid.out ?_)
  refine Lib.hid ?_
  go_wp2_with ((with_reducible refine Map.insL Tryz.tStr (mW4.out) 6 (.int .i64 4) ?_ ?_ ?_ ?_); exact rfl; exact rfl; exact rfl; intro W5 cW5 mW5; replace cW5 := Lib.hid cW5; replace mW5 := Lib.hid mW5; refine Hid.out ?_)
  refine Lib.hid ?_
  go_wp2_with ((with_reducible refine Map.insL Tryz.tStr (mW5.out) 12 (.int .i64 8) ?_ ?_ ?_ ?_); exact rfl; exact rfl; exact rfl; intro W6 cW6 mW6; replace cW6 := Lib.hid cW6; replace mW6 := Lib.hid mW6; refine Hid.out ?_)
  refine Lib.hid ?_
  go_wp2_with ((with_reducible refine Map.getL Tryz.tStr (mW6.out) n ?_ ?_ ?_); exact rfl; exact rfl; refine Hid.out ?_)
  refine Lib.hid ?_
  go_wp2
  go_ret
  refine ⟨?_, ?_⟩
  · show Ending.returned (Option.getD _ _) = _
    congr 1
    simp only [Map.put, strideF]
    by_cases h1 : n = 12
    · simp [h1]
    by_cases h2 : n = 6
    · simp [h2]
    by_cases h3 : n = 2
    · simp [h3]
    by_cases h4 : n = 1
    · simp [h4]
    simp [h1, h2, h3, h4]
  · have hsz : w.heap.size ≤ bq := by rw [ebq.out]; exact Nat.le_refl _
    exact ((((cbq.out.new cW3.out hsz).new cW4.out hsz).new cW5.out hsz).new cW6.out hsz)

/-- Has an addend no room in 32 bits? -/
def bigA (x : Imp) : Bool := decide (2147483647 < x.add) || decide (x.add < -2147483648)
/-- The least format that has room for imports' addends. -/
def fmtN (l : List Imp) : Int := if l.any bigA then 3 else if l.any (fun x => decide (x.add ≠ 0)) then 2 else 1
theorem any_get {p : Imp → Bool} {l : List Imp} : l.any p = true ↔ ∃ j, j < l.length ∧ p (l.getD j .zero) = true := by
  rw [List.any_eq_true]
  constructor
  · rintro ⟨x, hx, hp⟩
    obtain ⟨j, hj, rfl⟩ := List.getElem_of_mem hx
    exact ⟨j, hj, by simpa [List.getD_eq_getElem?_getD, hj] using hp⟩
  · rintro ⟨j, hj, hp⟩
    rw [List.getD_eq_getElem?_getD, List.getElem?_eq_getElem hj] at hp
    exact ⟨_, List.getElem_mem hj, hp⟩
theorem any_no {p : Imp → Bool} {l : List Imp} (h : ∀ j, j < l.length → p (l.getD j .zero) = false) : l.any p = false := by
  cases e : l.any p with
  | false => rfl
  | true => obtain ⟨j, hj, hp⟩ := any_get.1 e; rw [h j hj] at hp; cases hp
theorem wrap32_big (x : Imp) : (x.add ≠ wrap64 (wrap32 x.add)) ↔ bigA x = true := by
  unfold bigA wrap32 wrap64
  simp only [Bool.or_eq_true, decide_eq_true_eq]
  omega
set_option maxHeartbeats 2000000 in
theorem format_any (l : List Imp) (v : Value) (w : World) (rd : impL.Rd w v l) :
    Calls Tryz.prog 92 #[v] w fun e w' => e = .returned (.int .i64 (fmtN l)) ∧ Chg [] w w' := by
  obtain ⟨a, cap, rfl, hc1, hc2⟩ := rd.shape
  have Rd := Lib.hid rd
  clear rd
  go_enter Tryz.func92, Tryz.ntmps92
  go_wp2_with fail
  go_loopw [3, 8] (fun s3 s8 wr => ∃ k : Nat, k ≤ l.length ∧ s8 = .int .i64 (k : Int) ∧ (∀ j, j < k → bigA (l.getD j .zero) = false) ∧ s3 = .int .i64 (if (l.take k).any (fun x => decide (x.add ≠ 0)) then 2 else 1) ∧ Chg [] w wr) (fun _ s8 _ => l.length - (intOf s8).toNat)
  case atStart => exact ⟨0, Nat.zero_le _, rfl, fun _ h => absurd h (Nat.not_lt_zero _), rfl, Chg.refl _ _⟩
  case round =>
    obtain ⟨k, hk, rfl, hno, h3, hch⟩ := hrel
    obtain ⟨F, hF⟩ : ∃ F : Int, F = if (l.take k).any (fun x => decide (x.add ≠ 0)) then 2 else 1 := ⟨_, rfl⟩
    rw [← hF] at h3
    subst h3
    by_cases hlt : k < l.length
    · obtain ⟨b, off, rfl, hb, hcell⟩ := Rd.out.at (by omega)
      have hI : impL.In w b (off + k * 4) (l.getD k .zero) := hcell k hlt
      obtain ⟨x, hx⟩ : ∃ x, x = l.getD k .zero := ⟨_, rfl⟩
      rw [← hx] at hI
      obtain ⟨x0, x1, x2, x3⟩ := Imp.at (hI.frame hch)
      have hany : (l.take (k + 1)).any (fun x => decide (x.add ≠ 0)) = ((l.take k).any (fun x => decide (x.add ≠ 0)) || decide (x.add ≠ 0)) := by
        rw [List.take_add_one, List.any_append, hx]
        simp [List.getD_eq_getElem?_getD, hlt]
      generalize (l.take k).any (fun x => decide (x.add ≠ 0)) = B at *
      clear hI hcell hb
      have Hx := Lib.hid hx
      have Hno := Lib.hid hno
      have Hch := Lib.hid hch
      have Hany := Lib.hid hany
      have HF := Lib.hid hF
      clear hx hno hch hany hF
      by_cases hbig : bigA x = true
      · have d1 : (x.add != wrap64 (wrap32 x.add)) = true := by rw [bne_iff_ne]; exact (wrap32_big x).2 hbig
        have HE : Hid (fmtN l = 3) := by
          refine Lib.hid ?_
          unfold fmtN
          rw [if_pos (any_get.2 ⟨k, hlt, by rw [← Hx.out]; exact hbig⟩)]
        clear hbig
        go_wp2
        go_ret
        exact ⟨by rw [HE.out]; rfl, Hch.out.alloc _⟩
      · have hbf : bigA x = false := by simpa using hbig
        have d1 : (x.add != wrap64 (wrap32 x.add)) = false := by
          cases e : (x.add != wrap64 (wrap32 x.add)) with
          | false => rfl
          | true => rw [bne_iff_ne] at e; exact absurd ((wrap32_big x).1 e) hbig
        clear hbig
        have Hbf := Lib.hid hbf
        clear hbf
        by_cases hz : x.add = 0
        · have d2 : (x.add != 0) = false := by simpa using hz
          have Hz := Lib.hid hz
          clear hz
          go_wp2
          go_roundw
          case rel =>
            refine ⟨k + 1, hlt, by go_num, fun j hj => ?_, ?_, Hch.out.alloc _⟩
            · by_cases e : j = k
              · subst e; rw [← Hx.out]; exact Hbf.out
              · exact Hno.out j (by omega)
            · rw [Hany.out, Hz.out, HF.out]; simp
          case measure => simp [intOf]; omega
        · have d2 : (x.add != 0) = true := by simpa using hz
          have Hz := Lib.hid hz
          clear hz
          go_wp2
          go_roundw
          case rel =>
            refine ⟨k + 1, hlt, by go_num, fun j hj => ?_, ?_, Hch.out.alloc _⟩
            · by_cases e : j = k
              · subst e; rw [← Hx.out]; exact Hbf.out
              · exact Hno.out j (by omega)
            · rw [Hany.out]; simp [Hz.out]
          case measure => simp [intOf]; omega
    · obtain rfl : k = l.length := by omega
      have HE : fmtN l = if (l.take l.length).any (fun x => decide (x.add ≠ 0)) then 2 else 1 := by
        unfold fmtN
        rw [any_no (fun j hj => hno j hj), List.take_length, if_neg (by simp)]
      rw [← hF] at HE
      replace HE := Lib.hid HE
      have Hno := Lib.hid hno
      have Hch := Lib.hid hch
      have HF := Lib.hid hF
      clear hno hch hF
      go_wp2
      go_ret
      exact ⟨by rw [HE.out]; rfl, Hch.out⟩
end Go.Proofs.YtpnldfinobnpoaaGreatDoor
