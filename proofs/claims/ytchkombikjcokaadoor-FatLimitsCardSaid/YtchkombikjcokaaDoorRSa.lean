/- The document's Slices where it tells an error ahead of its entries, and of a thin file. -/
import Derived.Test.YtchkombikjcokaaDoorFSl
namespace Go.Proofs.YtchkombikjcokaaDoor
open Go.RowKit
set_option maxRecDepth 100000

def RSaid (w : World) (f : Value) (E : Int) : Prop :=
  Calls Tryd.prog 18 #[f] w fun e w' => e = .returned (.tuple #[.slice none 0 0, .int .i64 E]) ∧ Chg [] w w'
theorem RS_big (n cap : Nat) (a : Option Addr) (w : World) (h : 1048576 < n) : RSaid w (.slice a n cap) 11 := by
  have db : decide ((1048576 : Int) < (n : Int)) = true := by simp; omega
  unfold RSaid
  clear h
  go_enter Tryd.func18, Tryd.ntmps18
  go_wp2
  go_ret2
  exact ⟨rfl, Chg.refl _ _⟩
theorem RS_four (n cap : Nat) (a : Option Addr) (w : World) (h : n < 4) : RSaid w (.slice a n cap) 3 := by
  have db : decide ((1048576 : Int) < (n : Int)) = false := by simp; omega
  have d4 : decide ((n : Int) < 4) = true := by simp; omega
  have d4N : decide (n < 4) = true := by simp; omega
  unfold RSaid
  go_enter Tryd.func18, Tryd.ntmps18
  go_wp2
  go_ret2
  exact ⟨rfl, Chg.refl _ _⟩
theorem RS_five (n cap : Nat) (a : Option Addr) (S : ByteArray) (w : World) (h : 4 ≤ n) (hl : n ≤ 1048576) (hnc : n ≤ cap) (hcm : cap ≤ 9223372036854775807) (hs : (convert 24 9 (.slice a 4 cap)).run Tryd.prog w = .ok (.string S) w)
    (e1 : (S.toList == [207, 250, 237, 254]) = false) (e2 : (S.toList == [202, 254, 186, 191]) = false) (e3 : (S.toList == [202, 254, 186, 190]) = false) : RSaid w (.slice a n cap) 5 := by
  have db : decide ((1048576 : Int) < (n : Int)) = false := by simp; omega
  have d4 : decide ((n : Int) < 4) = false := by simp; omega
  have e4 : (S.toList != [202, 254, 186, 190]) = true := by unfold bne; rw [e3]; rfl
  unfold RSaid
  clear hl
  go_enter Tryd.func18, Tryd.ntmps18
  go_wp2
  go_ret2
  exact ⟨rfl, Chg.refl _ _⟩
theorem toList_mk (l : List UInt8) : (ByteArray.mk l.toArray).toList = l := by simp [ByteArray.toList_eq]
theorem RS_thin12 (n cap : Nat) (a : Option Addr) (w : World) (h : 4 ≤ n) (h12 : n < 12) (hnc : n ≤ cap) (hcm : cap ≤ 9223372036854775807) (hs : (convert 24 9 (.slice a 4 cap)).run Tryd.prog w = .ok (.string ⟨#[207, 250, 237, 254]⟩) w) : RSaid w (.slice a n cap) 3 := by
  have db : decide ((1048576 : Int) < (n : Int)) = false := by simp; omega
  have d4 : decide ((n : Int) < 4) = false := by simp; omega
  have d12 : decide ((n : Int) < 12) = true := by simp; omega
  have d12N : decide (n < 12) = true := by simp; omega
  unfold RSaid
  go_enter Tryd.func18, Tryd.ntmps18
  go_wp2
  go_ret2
  exact ⟨rfl, Chg.refl _ _⟩
theorem RS_short20 (n cap : Nat) (a : Option Addr) (w : World) (h : 4 ≤ n) (h8 : n < 8) (hnc : n ≤ cap) (hcm : cap ≤ 9223372036854775807) (hs : (convert 24 9 (.slice a 4 cap)).run Tryd.prog w = .ok (.string ⟨#[202, 254, 186, 190]⟩) w) : RSaid w (.slice a n cap) 3 := by
  have db : decide ((1048576 : Int) < (n : Int)) = false := by simp; omega
  have d4 : decide ((n : Int) < 4) = false := by simp; omega
  have d8 : decide ((n : Int) < 8) = true := by simp; omega
  have d8N : decide (n < 8) = true := by simp; omega
  unfold RSaid
  go_enter Tryd.func18, Tryd.ntmps18
  go_wp2
  go_ret2
  exact ⟨rfl, Chg.refl _ _⟩
theorem RS_many20 (l : List UInt8) (cap : Nat) (a : Option Addr) (w : World) (rd : Rd w (.slice a l.length cap) (bytesV l)) (h8 : 8 ≤ l.length) (hl : l.length ≤ 1048576) (hnc : l.length ≤ cap) (hcm : cap ≤ 9223372036854775807) (hm : 32 < num l 4 4)
    (hs : (convert 24 9 (.slice a 4 cap)).run Tryd.prog w = .ok (.string ⟨#[202, 254, 186, 190]⟩) w) : RSaid w (.slice a l.length cap) 11 := by
  have HN0 := Lib.hid (number_any l a cap 4 4 true w rd (by omega) (.inl rfl) (by omega))
  change Hid (Calls Tryd.prog 44 #[.slice a l.length cap, .int .i64 4, .int .i64 4, .bool true] w fun e w' => e = .returned (.int .u64 (num l 4 4)) ∧ Chg [] w w') at HN0
  have b1 := num4 l 4
  generalize num l 4 4 = many at HN0 hm b1
  have db : decide ((1048576 : Int) < (l.length : Int)) = false := by simp; omega
  have d4 : decide ((l.length : Int) < 4) = false := by simp; omega
  have d8 : decide ((l.length : Int) < 8) = false := by simp; omega
  have dm : decide ((32 : Int) < (many : Int)) = true := by simp; omega
  have dmN : decide (32 < many) = true := by simp; omega
  have hl2 : l.length ≤ 70368744177664 := by omega
  unfold RSaid
  clear hl rd
  go_enter Tryd.func18, Tryd.ntmps18
  go_wp2_with fail
  refine (HN0.out).mono ?_
  rintro e w1 ⟨rfl, hch⟩
  have Hch := Lib.hid hch
  clear hch
  clear hs
  go_wp2
  go_ret2
  exact ⟨rfl, Hch.out⟩
theorem RS_fit20 (l : List UInt8) (cap : Nat) (a : Option Addr) (w : World) (rd : Rd w (.slice a l.length cap) (bytesV l)) (h8 : 8 ≤ l.length) (hl : l.length ≤ 1048576) (hnc : l.length ≤ cap) (hcm : cap ≤ 9223372036854775807) (hm : num l 4 4 ≤ 32) (hf : l.length < 8 + num l 4 4 * 20)
    (hs : (convert 24 9 (.slice a 4 cap)).run Tryd.prog w = .ok (.string ⟨#[202, 254, 186, 190]⟩) w) : RSaid w (.slice a l.length cap) 3 := by
  have HN0 := Lib.hid (number_any l a cap 4 4 true w rd (by omega) (.inl rfl) (by omega))
  change Hid (Calls Tryd.prog 44 #[.slice a l.length cap, .int .i64 4, .int .i64 4, .bool true] w fun e w' => e = .returned (.int .u64 (num l 4 4)) ∧ Chg [] w w') at HN0
  generalize num l 4 4 = many at HN0 hm hf
  have db : decide ((1048576 : Int) < (l.length : Int)) = false := by simp; omega
  have d4 : decide ((l.length : Int) < 4) = false := by simp; omega
  have d8 : decide ((l.length : Int) < 8) = false := by simp; omega
  have dm : decide ((32 : Int) < (many : Int)) = false := by simp; omega
  have df : decide ((l.length : Int) < 8 + (many : Int) * 20) = true := by simp; omega
  have hl2 : l.length ≤ 70368744177664 := by omega
  unfold RSaid
  clear hl rd
  go_enter Tryd.func18, Tryd.ntmps18
  go_wp2_with fail
  refine (HN0.out).mono ?_
  rintro e w1 ⟨rfl, hch⟩
  have Hch := Lib.hid hch
  clear hch
  clear hs
  go_wp2
  go_ret2
  exact ⟨rfl, Hch.out⟩
theorem RS_short32 (n cap : Nat) (a : Option Addr) (w : World) (h : 4 ≤ n) (h8 : n < 8) (hnc : n ≤ cap) (hcm : cap ≤ 9223372036854775807) (hs : (convert 24 9 (.slice a 4 cap)).run Tryd.prog w = .ok (.string ⟨#[202, 254, 186, 191]⟩) w) : RSaid w (.slice a n cap) 3 := by
  have db : decide ((1048576 : Int) < (n : Int)) = false := by simp; omega
  have d4 : decide ((n : Int) < 4) = false := by simp; omega
  have d8 : decide ((n : Int) < 8) = true := by simp; omega
  have d8N : decide (n < 8) = true := by simp; omega
  unfold RSaid
  go_enter Tryd.func18, Tryd.ntmps18
  go_wp2
  go_ret2
  exact ⟨rfl, Chg.refl _ _⟩
theorem RS_many32 (l : List UInt8) (cap : Nat) (a : Option Addr) (w : World) (rd : Rd w (.slice a l.length cap) (bytesV l)) (h8 : 8 ≤ l.length) (hl : l.length ≤ 1048576) (hnc : l.length ≤ cap) (hcm : cap ≤ 9223372036854775807) (hm : 32 < num l 4 4)
    (hs : (convert 24 9 (.slice a 4 cap)).run Tryd.prog w = .ok (.string ⟨#[202, 254, 186, 191]⟩) w) : RSaid w (.slice a l.length cap) 11 := by
  have HN0 := Lib.hid (number_any l a cap 4 4 true w rd (by omega) (.inl rfl) (by omega))
  change Hid (Calls Tryd.prog 44 #[.slice a l.length cap, .int .i64 4, .int .i64 4, .bool true] w fun e w' => e = .returned (.int .u64 (num l 4 4)) ∧ Chg [] w w') at HN0
  have b1 := num4 l 4
  generalize num l 4 4 = many at HN0 hm b1
  have db : decide ((1048576 : Int) < (l.length : Int)) = false := by simp; omega
  have d4 : decide ((l.length : Int) < 4) = false := by simp; omega
  have d8 : decide ((l.length : Int) < 8) = false := by simp; omega
  have dm : decide ((32 : Int) < (many : Int)) = true := by simp; omega
  have dmN : decide (32 < many) = true := by simp; omega
  have hl2 : l.length ≤ 70368744177664 := by omega
  unfold RSaid
  clear hl rd
  go_enter Tryd.func18, Tryd.ntmps18
  go_wp2_with fail
  refine (HN0.out).mono ?_
  rintro e w1 ⟨rfl, hch⟩
  have Hch := Lib.hid hch
  clear hch
  clear hs
  go_wp2
  go_ret2
  exact ⟨rfl, Hch.out⟩
theorem RS_fit32 (l : List UInt8) (cap : Nat) (a : Option Addr) (w : World) (rd : Rd w (.slice a l.length cap) (bytesV l)) (h8 : 8 ≤ l.length) (hl : l.length ≤ 1048576) (hnc : l.length ≤ cap) (hcm : cap ≤ 9223372036854775807) (hm : num l 4 4 ≤ 32) (hf : l.length < 8 + num l 4 4 * 32)
    (hs : (convert 24 9 (.slice a 4 cap)).run Tryd.prog w = .ok (.string ⟨#[202, 254, 186, 191]⟩) w) : RSaid w (.slice a l.length cap) 3 := by
  have HN0 := Lib.hid (number_any l a cap 4 4 true w rd (by omega) (.inl rfl) (by omega))
  change Hid (Calls Tryd.prog 44 #[.slice a l.length cap, .int .i64 4, .int .i64 4, .bool true] w fun e w' => e = .returned (.int .u64 (num l 4 4)) ∧ Chg [] w w') at HN0
  generalize num l 4 4 = many at HN0 hm hf
  have db : decide ((1048576 : Int) < (l.length : Int)) = false := by simp; omega
  have d4 : decide ((l.length : Int) < 4) = false := by simp; omega
  have d8 : decide ((l.length : Int) < 8) = false := by simp; omega
  have dm : decide ((32 : Int) < (many : Int)) = false := by simp; omega
  have df : decide ((l.length : Int) < 8 + (many : Int) * 32) = true := by simp; omega
  have hl2 : l.length ≤ 70368744177664 := by omega
  unfold RSaid
  clear hl rd
  go_enter Tryd.func18, Tryd.ntmps18
  go_wp2_with fail
  refine (HN0.out).mono ?_
  rintro e w1 ⟨rfl, hch⟩
  have Hch := Lib.hid hch
  clear hch
  clear hs
  go_wp2
  go_ret2
  exact ⟨rfl, Hch.out⟩
theorem RS_thin (l : List UInt8) (cap : Nat) (a : Option Addr) (w : World) (rd : Rd w (.slice a l.length cap) (bytesV l)) (h12 : 12 ≤ l.length) (hl : l.length ≤ 1048576) (hnc : l.length ≤ cap) (hcm : cap ≤ 9223372036854775807)
    (hs : (convert 24 9 (.slice a 4 cap)).run Tryd.prog w = .ok (.string ⟨#[207, 250, 237, 254]⟩) w) :
    Calls Tryd.prog 18 #[.slice a l.length cap] w fun e w' => ∃ v, e = .returned (.tuple #[v, .int .i64 0]) ∧ SlRd w' v [thinSL l] ∧ Chg [] w w' := by
  have HN1 := Lib.hid (fun w rd => number_any l a cap 4 4 false w rd (by omega) (.inl rfl) (by omega))
  have HN2 := Lib.hid (fun w rd => number_any l a cap 8 4 false w rd (by omega) (.inl rfl) (by omega))
  change Hid (∀ w, Rd w (.slice a l.length cap) (bytesV l) → Calls Tryd.prog 44 #[.slice a l.length cap, .int .i64 4, .int .i64 4, .bool false] w fun e w' => e = .returned (.int .u64 (leNum ((l.drop 4).take 4))) ∧ Chg [] w w') at HN1
  change Hid (∀ w, Rd w (.slice a l.length cap) (bytesV l) → Calls Tryd.prog 44 #[.slice a l.length cap, .int .i64 8, .int .i64 4, .bool false] w fun e w' => e = .returned (.int .u64 (leNum ((l.drop 8).take 4))) ∧ Chg [] w w') at HN2
  unfold thinSL
  have b1 := leNum4_lt l 4
  have b2 := leNum4_lt l 8
  generalize leNum ((l.drop 4).take 4) = n1 at HN1 b1 ⊢
  generalize leNum ((l.drop 8).take 4) = n2 at HN2 b2 ⊢
  have db : decide ((1048576 : Int) < (l.length : Int)) = false := by simp; omega
  have d4 : decide ((l.length : Int) < 4) = false := by simp; omega
  have d12 : decide ((l.length : Int) < 12) = false := by simp; omega
  have hl2 : l.length ≤ 70368744177664 := by omega
  have HR := Lib.hid rd
  clear rd
  clear hl
  go_enter Tryd.func18, Tryd.ntmps18
  go_wp2_with fail
  refine (HN1.out w HR.out).mono ?_
  rintro e w1 ⟨rfl, hch⟩
  have HC1 := Lib.hid (hch)
  clear hs hch
  go_wp2_with fail
  refine (HN2.out w1 (HR.out.frame HC1.out (fun _ _ hm => by cases hm))).mono ?_
  rintro e w2 ⟨rfl, hch⟩
  have HC2 := Lib.hid (HC1.out.then hch)
  clear hch
  go_wp2
  go_ret2
  exact ⟨_, rfl, sl_one w2 ⟨n1, n2, 0, l.length, 0⟩ _, HC2.out.alloc _⟩
end Go.Proofs.YtchkombikjcokaaDoor
