/- What Uleb and Sleb make of a cursor whose bytes are known to begin with a number, or with none. -/
import Derived.Test.YtpodphfdoonidaaDoorSl
import Derived.Test.YtpodphfdoonidaaDoorLebE
namespace Go.Proofs.YtpodphfdoonidaaDoor
open Go.RowKit
theorem U_some {l : List UInt8} {k v n : Nat} (big : Bool) (h : uvalV (l.drop k) = some (v, n)) : lebV ulebR ⟨l, k, big, false⟩ = (v : Int) ∧ lebS ulebR ⟨l, k, big, false⟩ = ⟨l, k + n, big, false⟩ := by
  have := uvalV_pos _ _ _ h
  rw [lebV_u, lebS_u, h]
  simp; omega
theorem S_some {l : List UInt8} {k n : Nat} {v : Int} (big : Bool) (h : svalV (l.drop k) = some (v, n)) : lebV slebR ⟨l, k, big, false⟩ = v ∧ lebS slebR ⟨l, k, big, false⟩ = ⟨l, k + n, big, false⟩ := by
  have := svalV_pos _ _ _ h
  rw [lebV_s, lebS_s, h]
  simp; omega
theorem U_none {l : List UInt8} {k : Nat} (big : Bool) (h : uvalV (l.drop k) = none) : lebV ulebR ⟨l, k, big, false⟩ = 0 ∧ lebS ulebR ⟨l, k, big, false⟩ = ⟨l, k, big, true⟩ := by
  rw [lebV_u, lebS_u, h]
  simp
theorem S_none {l : List UInt8} {k : Nat} (big : Bool) (h : svalV (l.drop k) = none) : lebV slebR ⟨l, k, big, false⟩ = 0 ∧ lebS slebR ⟨l, k, big, false⟩ = ⟨l, k, big, true⟩ := by
  rw [lebV_s, lebS_s, h]
  simp
end Go.Proofs.YtpodphfdoonidaaDoor
