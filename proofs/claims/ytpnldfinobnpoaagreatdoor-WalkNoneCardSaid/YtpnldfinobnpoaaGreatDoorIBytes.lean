/- chain.bytes: an import's bytes (formats 1 and 2). -/
import Derived.Test.YtpnldfinobnpoaaGreatDoorByte
import Derived.Test.YtpnldfinobnpoaaGreatDoorRecImp
import Derived.Laws.BitsAllLaws
namespace Go.Proofs.YtpnldfinobnpoaaGreatDoor
open Go.RowKit
set_option maxRecDepth 100000

def u64N (z : Int) : Nat := (z % 18446744073709551616).toNat
theorem u64N_lt (z : Int) : u64N z < 18446744073709551616 := by unfold u64N; omega
theorem u64N_int (z : Int) : ((u64N z : Nat) : Int) = z % 18446744073709551616 := by unfold u64N; omega
/-- An import's word of 4 bytes, its name at a place. -/
def impW (x : Imp) (name : Nat) : Nat := u64N x.ord % 256 + (if x.weak then 256 else 0) + name * 512
/-- An import's bytes, in the formats 1 and 2. -/
def impB (x : Imp) (name : Nat) (fmt : Int) : List UInt8 := leB (impW x name) 4 ++ (if fmt = 2 then leB (u64N x.add) 4 else [])
theorem or_disj (a b k p : Nat) (hp : p = 2 ^ k) (h : a < p) (h1 : a + b * p < 18446744073709551616) : bits .or .u64 (a : Int) ((b * p : Nat) : Int) = ((a + b * p : Nat) : Int) := by
  have e := Nat.two_pow_add_eq_or_of_lt (hp ▸ h) b
  rw [← hp, Nat.mul_comm] at e
  rw [u64_or_nat _ _ (by omega) (by omega), Nat.or_comm, ← e, Nat.add_comm]
set_option maxHeartbeats 2000000 in
theorem bytes12_any (x : Imp) (name : Nat) (hn : name < 4294967296) (fmt : Int) (h3 : fmt ≠ 3) (w : World) :
    Calls Tryz.prog 93 #[impL.val x, .int .i64 name, .int .i64 fmt] w fun e w' => ∃ v, e = .returned v ∧ BB w' w.heap.size v (impB x name fmt) ∧ Chg [] w w' := by
  have d3 : (fmt == 3) = false := by simpa using h3
  have q1 : IntKind.u64.wrap x.ord = (u64N x.ord : Int) := by rw [IntKind.wrap_u64, u64N_int]
  have q2 : (u64N x.ord : Int) % 256 = ((u64N x.ord % 256 : Nat) : Int) := by omega
  have q2b : bits .and .u64 (u64N x.ord : Int) 255 = ((u64N x.ord % 256 : Nat) : Int) := by
    have := u64_and_nat (u64N x.ord) 255 (u64N_lt _) (by decide)
    rw [show (255 : Nat) = 2 ^ 8 - 1 from rfl, Nat.and_two_pow_sub_one_eq_mod] at this
    exact this
  have q3 : IntKind.u64.wrap (name : Int) = (name : Int) := by rw [IntKind.wrap_u64]; omega
  have q4 : (name : Int) * 512 = ((name * 512 : Nat) : Int) := by omega
  have q5 : IntKind.u64.wrap x.add = (u64N x.add : Int) := by rw [IntKind.wrap_u64, u64N_int]
  have hA := Nat.mod_lt (u64N x.ord) (show 0 < 256 by decide)
  have q6 : bits .or .u64 ((u64N x.ord % 256 : Nat) : Int) 256 = ((u64N x.ord % 256 + 256 : Nat) : Int) := or_disj _ 1 8 256 rfl hA (by omega)
  have q60 : bits .or .u64 ((u64N x.ord % 256 : Nat) : Int) 0 = ((u64N x.ord % 256 : Nat) : Int) := or_disj _ 0 8 256 rfl hA (by omega)
  have q7 : bits .or .u64 ((u64N x.ord % 256 + 256 : Nat) : Int) ((name * 512 : Nat) : Int) = ((u64N x.ord % 256 + 256 + name * 512 : Nat) : Int) := or_disj _ name 9 512 rfl (by omega) (by omega)
  have q70 : bits .or .u64 ((u64N x.ord % 256 : Nat) : Int) ((name * 512 : Nat) : Int) = ((u64N x.ord % 256 + name * 512 : Nat) : Int) := or_disj _ name 9 512 rfl (by omega) (by omega)
  have hW : impW x name = u64N x.ord % 256 + (if x.weak then 256 else 0) + name * 512 := rfl
  unfold impB
  rw [hW]
  clear hW hA
  generalize u64N x.add = D at *
  generalize u64N x.ord = U at *
  generalize U % 256 = A at *
  generalize name * 512 = N at *
  clear h3
  cases hw : x.weak with
  | true =>
    rw [if_pos rfl]
    clear q60 q70
    generalize A + 256 = A2 at *
    generalize A2 + N = S at *
    by_cases h2 : fmt = 2
    · subst h2
      rw [if_pos rfl]
      go_enter Tryz.func93, Tryz.ntmps93
      go_wp2_with ((with_reducible refine Lay.bxL (L := impL) 71 x ?_ ?_); exact rfl; intro W1 bx ebx cbx xbx; replace ebx := Lib.hid ebx; replace cbx := Lib.hid cbx; replace xbx := Lib.hid xbx; refine Hid.out ?_)
      refine Lib.hid ?_
      have x0 := Imp.c_ord xbx.out
      have x1 := Imp.c_weak xbx.out
      rw [hw] at x1
      go_wp2_with fail
      refine (put_any [] (.slice none 0 0) w.heap.size S 4 (by decide) _ (Lay.Buf.nil _ _) (by decide) cbx.out.size).mono ?_
      rintro e W2 ⟨v1, rfl, hb, hc, _⟩
      have B2 : Hid (BB W2 w.heap.size v1 (leB S 4)) := Lib.hid (hb)
      have C2 : Hid (Chg [] w W2) := Lib.hid (cbx.out.then hc)
      have x3 := Imp.c_add (xbx.out.frame hc)
      clear hb hc x0 x1
      go_wp2_with fail
      refine (put_any (leB S 4) v1 w.heap.size D 4 (by decide) _ B2.out (by rw [leB_len]; decide) C2.out.size).mono ?_
      rintro e W3 ⟨v2, rfl, hb, hc, _⟩
      have Hb := Lib.hid hb
      have Hc := Lib.hid hc
      clear hb hc
      go_wp2
      go_ret
      exact ⟨_, rfl, Hb.out, C2.out.trans Hc.out (fun i hi hw => by have := (B2.out.lt i (by simpa using hi)).1; omega)⟩
    · have d2 : (fmt == 2) = false := by simpa using h2
      rw [if_neg h2, List.append_nil]
      clear h2
      go_enter Tryz.func93, Tryz.ntmps93
      go_wp2_with ((with_reducible refine Lay.bxL (L := impL) 71 x ?_ ?_); exact rfl; intro W1 bx ebx cbx xbx; replace ebx := Lib.hid ebx; replace cbx := Lib.hid cbx; replace xbx := Lib.hid xbx; refine Hid.out ?_)
      refine Lib.hid ?_
      have x0 := Imp.c_ord xbx.out
      have x1 := Imp.c_weak xbx.out
      rw [hw] at x1
      go_wp2_with fail
      refine (put_any [] (.slice none 0 0) w.heap.size S 4 (by decide) _ (Lay.Buf.nil _ _) (by decide) cbx.out.size).mono ?_
      rintro e W2 ⟨v1, rfl, hb, hc, _⟩
      have B2 : Hid (BB W2 w.heap.size v1 (leB S 4)) := Lib.hid (hb)
      have C2 : Hid (Chg [] w W2) := Lib.hid (cbx.out.then hc)
      have x3 := Imp.c_add (xbx.out.frame hc)
      clear hb hc x0 x1
      go_wp2
      go_ret
      exact ⟨_, rfl, B2.out, C2.out⟩
  | false =>
    rw [if_neg (by simp), Nat.add_zero]
    clear q6 q7
    generalize A + N = S at *
    by_cases h2 : fmt = 2
    · subst h2
      rw [if_pos rfl]
      go_enter Tryz.func93, Tryz.ntmps93
      go_wp2_with ((with_reducible refine Lay.bxL (L := impL) 71 x ?_ ?_); exact rfl; intro W1 bx ebx cbx xbx; replace ebx := Lib.hid ebx; replace cbx := Lib.hid cbx; replace xbx := Lib.hid xbx; refine Hid.out ?_)
      refine Lib.hid ?_
      have x0 := Imp.c_ord xbx.out
      have x1 := Imp.c_weak xbx.out
      rw [hw] at x1
      go_wp2_with fail
      refine (put_any [] (.slice none 0 0) w.heap.size S 4 (by decide) _ (Lay.Buf.nil _ _) (by decide) cbx.out.size).mono ?_
      rintro e W2 ⟨v1, rfl, hb, hc, _⟩
      have B2 : Hid (BB W2 w.heap.size v1 (leB S 4)) := Lib.hid (hb)
      have C2 : Hid (Chg [] w W2) := Lib.hid (cbx.out.then hc)
      have x3 := Imp.c_add (xbx.out.frame hc)
      clear hb hc x0 x1
      go_wp2_with fail
      refine (put_any (leB S 4) v1 w.heap.size D 4 (by decide) _ B2.out (by rw [leB_len]; decide) C2.out.size).mono ?_
      rintro e W3 ⟨v2, rfl, hb, hc, _⟩
      have Hb := Lib.hid hb
      have Hc := Lib.hid hc
      clear hb hc
      go_wp2
      go_ret
      exact ⟨_, rfl, Hb.out, C2.out.trans Hc.out (fun i hi hw => by have := (B2.out.lt i (by simpa using hi)).1; omega)⟩
    · have d2 : (fmt == 2) = false := by simpa using h2
      rw [if_neg h2, List.append_nil]
      clear h2
      go_enter Tryz.func93, Tryz.ntmps93
      go_wp2_with ((with_reducible refine Lay.bxL (L := impL) 71 x ?_ ?_); exact rfl; intro W1 bx ebx cbx xbx; replace ebx := Lib.hid ebx; replace cbx := Lib.hid cbx; replace xbx := Lib.hid xbx; refine Hid.out ?_)
      refine Lib.hid ?_
      have x0 := Imp.c_ord xbx.out
      have x1 := Imp.c_weak xbx.out
      rw [hw] at x1
      go_wp2_with fail
      refine (put_any [] (.slice none 0 0) w.heap.size S 4 (by decide) _ (Lay.Buf.nil _ _) (by decide) cbx.out.size).mono ?_
      rintro e W2 ⟨v1, rfl, hb, hc, _⟩
      have B2 : Hid (BB W2 w.heap.size v1 (leB S 4)) := Lib.hid (hb)
      have C2 : Hid (Chg [] w W2) := Lib.hid (cbx.out.then hc)
      have x3 := Imp.c_add (xbx.out.frame hc)
      clear hb hc x0 x1
      go_wp2
      go_ret
      exact ⟨_, rfl, B2.out, C2.out⟩
end Go.Proofs.YtpnldfinobnpoaaGreatDoor
