/- errors.New, errors.Is, errors.Join of two, strconv.Itoa, the document's Digits. -/
import Derived.Test.YtpodphfdoonidaaDoorAsG
import Derived.Test.YtpodphfdoonidaaDoorApp
import Derived.Test.YtpodphfdoonidaaDoorCrow
import Derived.Test.YtpodphfdoonidaaDoorWErr
import Derived.Lib.ItoaMem
import Derived.Lib.ItoaLen
import Derived.Lib.IfaceEq
namespace Go.Proofs.YtpodphfdoonidaaDoor
open Go.RowKit Go.Extern.Stop Go.Stop Go.Extern
set_option maxRecDepth 100000

theorem ErrNew_any (s : ByteArray) (w : World) : Calls Tryd.prog 44 #[.string s] w fun e w' =>
    e = .returned (.iface 98 (.pointer (some ⟨w.heap.size, 0, none⟩))) ∧ w.alloc (.cells #[.string s] 100) = w' := by
  go_enter Tryd.func44, Tryd.ntmps44
  go_wp2
  go_ret
  exact ⟨rfl, rfl⟩

theorem Tryd.comparableE (w : World) : (callFunc 128 #[.agg #[.pointer (some ⟨5, 34, none⟩)]]).run Tryd.prog w = .ok (.value (.bool true)) w := by kernel_rfl
theorem Tryd.methodComparable (h : Value) (w : World) : (Go.method 280 119 (.agg #[h]) "Comparable").run Tryd.prog w = .ok (128, .agg #[h]) w := by kernel_rfl
theorem Tryd.noIsW (v : Value) (xT : TypeId) (w : World) : (Instr.typeAssert (.iface 55 v) xT 121 true).run Tryd.prog w = .ok (.tuple #[.nilIface, .bool false]) w :=
  run_typeAssert_lacksB Tryd.underlying121 (by kernel_rfl) (by kernel_rfl) v xT w
theorem is_wrong (b : Nat) (x : Value) (n : Int) (w : World) (hb : w.heap[b]? = some (.cells #[x, .int .i64 n] 57 (0, 0))) :
    Calls Tryd.prog 40 #[.iface 55 (.pointer (some ⟨b, 0, none⟩)), .iface 34 (.int .i64 n)] w fun e w' => e = .returned (.bool true) ∧ w = w' := by
  have hTO := @run_callFunc_extern Tryd.prog 61 _ ReflectliteType.typeOf Tryd.func61 (by kernel_rfl) (by kernel_rfl) (by kernel_rfl) (by kernel_rfl)
  have c1 := Tryd.typeOfE
  have c2 := Tryd.comparableE
  have c3 := Tryd.methodComparable
  have c4 := Tryd.noIsW
  have c5 := Tryd.hasUnwrap
  have c6 := Tryd.methodUnwrap
  have q1 : ∀ W : World, (binOp .eql 67 (.iface 55 (.pointer (some ⟨b, 0, none⟩))) (.iface 34 (.int .i64 n))).run Tryd.prog W = .ok (.bool false) W := fun W => run_eql_iface_types _ _ _ _ Tryd.underlying67 (by decide) W
  have q2 : ∀ W : World, (binOp .eql 67 (.iface 34 (.int .i64 n)) (.iface 34 (.int .i64 n))).run Tryd.prog W = .ok (.bool true) W := fun W => by
    rw [Lib.run_eql_iface_int W n n Tryd.underlying67 (by kernel_rfl) Tryd.underlying34]; simp
  have HB := Lib.hid (hb)
  clear hb
  go_enter Tryd.func40, Tryd.ntmps40
  go_wp2
  refine wp_loop_rounds 2 ?_
  rw [rounds_succ]
  go_wp2_with fail
  refine (Unwrap_any b x n w HB.out).mono ?_
  rintro e w' ⟨rfl, rfl⟩
  go_wp2
  rw [rounds_succ]
  go_wp2
  go_ret
  exact ⟨rfl, rfl⟩

def digC (d : Nat) : UInt8 := UInt8.ofNat (48 + d)
/-- The document's digits. -/
def digB (n : Nat) : ByteArray := ⟨(Lib.decDigits n).toArray⟩
theorem dec_len (n : Nat) (h : n < 9223372036854775808) : (Lib.decDigits n).length ≤ 21 := by
  have := Lib.itoa_length_le (n : Int) (by omega) (by omega)
  rwa [Lib.itoa_nonneg] at this
theorem dec_small {n : Nat} (h : n < 10) : Lib.decDigits n = [digC (n % 10)] := by rw [Lib.decDigits, dif_pos h, Nat.mod_eq_of_lt h]; rfl
theorem dec_big {n : Nat} (h : ¬ n < 10) : Lib.decDigits n = Lib.decDigits (n / 10) ++ [digC (n % 10)] := by rw [Lib.decDigits, dif_neg h]; rfl
theorem bytes_cat (a b : List UInt8) : (⟨a.toArray⟩ ++ ⟨b.toArray⟩ : ByteArray) = ⟨(a ++ b).toArray⟩ := ByteArray.ext (by simp)
theorem conv_digit (d : Nat) (hd : d < 10) (W : World) : (convert 22 9 (.slice (some ⟨W.heap.size, 0, none⟩) 1 1)).run Tryd.prog (W.alloc (.cells #[.int .u8 (48 + (d : Int))] 5)) = .ok (.string ⟨#[digC d]⟩) (W.alloc (.cells #[.int .u8 (48 + (d : Int))] 5)) := by
  refine run_str (l := [digC d]) ?_
  rw [show bytesV [digC d] = [.int .u8 ((48 + d : Nat) : Int)] from bytesV_ofNat (48 + d) (by omega)]
  exact Rd_new W [.int .u8 (48 + (d : Int))] _ 1 rfl (by show 1 ≤ maxLen; unfold maxLen; omega)
def strEmpty : Value → Nat
  | .string s => if s.size = 0 then 1 else 0
  | _ => 0
theorem strEmpty_le (v : Value) : strEmpty v ≤ 1 := by unfold strEmpty; split <;> (try split) <;> omega
theorem Digits_any (N : Nat) (hN : N < 9223372036854775808) (w : World) : Calls Tryd.prog 42 #[.int .u64 N] w fun e w' => e = .returned (.string (digB N)) ∧ Chg [] w w' := by
  have hlen := dec_len N hN
  go_enter Tryd.func42, Tryd.ntmps42
  go_wp2
  go_loopw [0, 3] (fun s0 s3 wr => ∃ (n : Nat) (l : List UInt8), s0 = .int .u64 (n : Int) ∧ s3 = .string ⟨l.toArray⟩ ∧ n < 9223372036854775808 ∧ l.length ≤ 21 ∧ Lib.decDigits N = (if n = 0 ∧ l ≠ [] then l else Lib.decDigits n ++ l) ∧ Chg [] w wr) (fun s0 s3 _ => 2 * (intOf s0).toNat + strEmpty s3)
  case atStart => exact ⟨N, [], rfl, rfl, hN, by simp, by simp, Chg.refl _ _⟩
  case round =>
    obtain ⟨n, l, rfl, rfl, hn, hll, hd, hch⟩ := hrel
    by_cases hstop : n = 0 ∧ l ≠ []
    · obtain ⟨rfl, hl⟩ := hstop
      rw [if_pos ⟨rfl, hl⟩] at hd
      have hle : l.isEmpty = false := by simpa using hl
      have Hd := Lib.hid hd
      have Hch := Lib.hid hch
      clear hd hch
      clear hl
      go_wp2
      go_ret
      exact ⟨by unfold digB; rw [Hd.out]; rfl, Hch.out⟩
    · rw [if_neg hstop] at hd
      have htest : 0 < n ∨ l = [] := by
        rcases Nat.eq_zero_or_pos n with h | h
        · exact .inr (Classical.byContradiction fun hne => hstop ⟨h, hne⟩)
        · exact .inl h
      have HD : Hid (Lib.decDigits N = (if n / 10 = 0 ∧ (digC (n % 10) :: l) ≠ [] then (digC (n % 10) :: l) else Lib.decDigits (n / 10) ++ (digC (n % 10) :: l))) := by
        refine Lib.hid ?_
        by_cases h10 : n < 10
        · rw [if_pos ⟨by omega, by simp⟩, hd, dec_small h10]; rfl
        · rw [if_neg (by omega), hd, dec_big h10]; simp
      have hlen2 : (digC (n % 10) :: l).length ≤ 21 := by
        have := HD.out
        split at this
        · rw [← this]; exact hlen
        · have := congrArg List.length this
          rw [List.length_append] at this
          omega
      have Hch := Lib.hid hch
      clear hch
      clear hd hlen
      have hmod : n % 10 < 10 := Nat.mod_lt _ (by decide)
      rcases Nat.eq_zero_or_pos n with h | h
      · subst h
        obtain rfl : l = [] := Classical.byContradiction fun hne => hstop ⟨rfl, hne⟩
        clear htest hstop
        have hs := fun W => conv_digit 0 (by decide) W
        simp at hs
        go_wp2
        go_roundw
        case rel => exact ⟨0, [48], rfl, rfl, by omega, by decide, HD.out, Hch.out.alloc _⟩
        case measure => decide
      · have hdt : decide (0 < n) = true := by simpa using h
        have hs := fun W => conv_digit (n % 10) hmod W
        simp only [Int.natCast_emod, Int.cast_ofNat_Int] at hs
        clear htest hstop
        go_wp2
        go_roundw
        case rel => exact ⟨n / 10, digC (n % 10) :: l, by go_num, congrArg Value.string (bytes_cat [digC (n % 10)] l), by omega, hlen2, HD.out, Hch.out.alloc _⟩
        case measure =>
          have h1 := strEmpty_le (.string (⟨#[digC (n % 10)]⟩ ++ ⟨l.toArray⟩))
          simp [intOf]
          omega
end Go.Proofs.YtpodphfdoonidaaDoor
