/- walk.reader: what reads a link of a format. -/
import Derived.Test.YtpnldfinobnpoaaGreatDoorLow
import Derived.Test.YtpnldfinobnpoaaGreatDoorYoung
import Derived.Test.YtpnldfinobnpoaaGreatDoorMap
namespace Go.Proofs.YtpnldfinobnpoaaGreatDoor
open Go.RowKit
set_option maxRecDepth 100000

/-- What reads a link of a format: nil, if there is no such format. -/
def readV (low : Int) (n : Int) : Value :=
  if n = 12 then .func (.func 95) #[Fmt.v ⟨low, true, 24⟩] #[]
  else if n = 6 then .func (.func 96) #[Fmt.v ⟨low, true, 24⟩] #[]
  else if n = 2 then .func (.func 96) #[Fmt.v ⟨low, false, 24⟩] #[]
  else if n = 1 then .func (.func 95) #[Fmt.v ⟨low, false, 16⟩] #[]
  else .nilFunc
theorem Tryz.tRd : Map.Ty (Map.intK .i64) Tryz.prog 165 .nilFunc := ⟨3, 125, by kernel_rfl, by kernel_rfl, fun w => by kernel_rfl⟩
set_option maxHeartbeats 1000000 in
theorem reader_any (n : Int) (m : Img) (ls : List Seg) (w : World) (rd : segL.Rd w m.segs.v ls) :
    Calls Tryz.prog 65 #[.int .i64 n, imgL.val m] w fun e w' => e = .returned (readV (lowS ls) n) ∧ Chg [] w w' := by
  obtain ⟨A, hA⟩ : ∃ A, A = lowS ls := ⟨_, rfl⟩
  rw [← hA]
  have HL := Lib.hid (low_any m ls)
  rw [← hA] at HL
  clear hA
  have Rd := Lib.hid rd
  clear rd
  go_enter Tryz.func65, Tryz.ntmps65
  go_wp2_with ((with_reducible refine Lay.bxL (L := imgL) 30 m ?_ ?_); exact rfl; intro W bm hbm hcW hbox; replace hbm := Lib.hid hbm; replace hcW := Lib.hid hcW; replace hbox := Lib.hid hbox; refine Hid.out ?_)
  refine Lib.hid ?_
  clear hbm
  go_wp2_with ((with_reducible refine Lay.ldL Tryz.tImg m (hbox.out.in) ?_ ?_); exact rfl; refine Hid.out ?_)
  refine Lib.hid ?_
  go_wp2_with fail
  refine (HL.out _ (Rd.out.frame hcW.out)).mono ?_
  rintro e w1 ⟨rfl, hc⟩
  have C1 := Lib.hid (hcW.out.then hc)
  clear hc
  go_wp2_with ((with_reducible refine Map.mkL (Map.intK .i64) 165 ?_); intro W2 bq ebq cbq mbq; replace ebq := Lib.hid ebq; replace cbq := Lib.hid cbq; replace mbq := Lib.hid mbq; refine Hid.out ?_)
  refine Lib.hid ?_
  go_wp2_with ((with_reducible refine Map.insL Tryz.tRd (mbq.out) 1 (.func (.func 95) #[Fmt.v ⟨A, false, 16⟩] #[]) ?_ ?_ ?_ ?_); exact rfl; exact rfl; exact rfl; intro W3 cW3 mW3; replace cW3 := Lib.hid cW3; replace mW3 := Lib.hid mW3; refine Hid.out ?_)
  refine Lib.hid ?_
  go_wp2_with ((with_reducible refine Map.insL Tryz.tRd (mW3.out) 2 (.func (.func 96) #[Fmt.v ⟨A, false, 24⟩] #[]) ?_ ?_ ?_ ?_); exact rfl; exact rfl; exact rfl; intro W4 cW4 mW4; replace cW4 := Lib.hid cW4; replace mW4 := Lib.hid mW4; refine Hid.out ?_)
  refine Lib.hid ?_
  go_wp2_with ((with_reducible refine Map.insL Tryz.tRd (mW4.out) 6 (.func (.func 96) #[Fmt.v ⟨A, true, 24⟩] #[]) ?_ ?_ ?_ ?_); exact rfl; exact rfl; exact rfl; intro W5 cW5 mW5; replace cW5 := Lib.hid cW5; replace mW5 := Lib.hid mW5; refine Hid.out ?_)
  refine Lib.hid ?_
  go_wp2_with ((with_reducible refine Map.insL Tryz.tRd (mW5.out) 12 (.func (.func 95) #[Fmt.v ⟨A, true, 24⟩] #[]) ?_ ?_ ?_ ?_); exact rfl; exact rfl; exact rfl; intro W6 cW6 mW6; replace cW6 := Lib.hid cW6; replace mW6 := Lib.hid mW6; refine Hid.out ?_)
  refine Lib.hid ?_
  go_wp2_with ((with_reducible refine Map.getL Tryz.tRd (mW6.out) n ?_ ?_ ?_); exact rfl; exact rfl; refine Hid.out ?_)
  refine Lib.hid ?_
  go_wp2
  go_ret
  refine ⟨?_, ?_⟩
  · show Ending.returned (Option.getD _ _) = _
    congr 1
    simp only [Map.put, readV]
    by_cases h1 : n = 12
    · simp [h1]
    by_cases h2 : n = 6
    · simp [h2]
    by_cases h3 : n = 2
    · simp [h3]
    by_cases h4 : n = 1
    · simp [h4]
    simp [h1, h2, h3, h4]
  · have hsz : w.heap.size ≤ bq := by rw [ebq.out]; exact C1.out.size
    exact (((((C1.out.then cbq.out).new cW3.out hsz).new cW4.out hsz).new cW5.out hsz).new cW6.out hsz)
end Go.Proofs.YtpnldfinobnpoaaGreatDoor
