/- Bytes as a string. -/
import Derived.Test.YtpodphfdoonidaaDoorRefPut
namespace Go.Proofs.YtpodphfdoonidaaDoor
open Go.RowKit

theorem foldl_push (ns : List Int) (s : ByteArray) : ns.foldl (fun r n => r.push (UInt8.ofNat n.toNat)) s = ⟨s.data ++ (ns.map fun n => UInt8.ofNat n.toNat).toArray⟩ := by
  induction ns generalizing s with
  | nil => simp
  | cons n r ih => simp only [List.foldl_cons, ih]; simp [ByteArray.push]
/-- string(v), v a slice of bytes. -/
theorem run_str {w : World} {a : Option Addr} {n cap : Nat} {l : List UInt8} (h : Rd w (.slice a n cap) (bytesV l)) :
    (convert 22 9 (.slice a n cap)).run Tryd.prog w = .ok (.string ⟨l.toArray⟩) w := by
  rw [run_convert_bytes_string (P := Tryd.prog) w 22 9 5 a n cap Tryd.underlying22 Tryd.underlying5 Tryd.underlying9]
  obtain ⟨a', n', cap', he, hn, hnc, hcm, hx⟩ := h
  cases he
  rw [bytesV_length] at hn
  subst hn
  cases a with
  | none =>
    have hnil : l = [] := by
      cases l with
      | nil => rfl
      | cons x r => obtain ⟨b, off, h, _⟩ := hx (by simp [bytesV]); cases h
    subst hnil
    rfl
  | some ad =>
    have hload : (loadCells ad l.length).run Tryd.prog w = .ok ((l.map fun x => (x.toNat : Int)).map (Value.int .u8)).toArray w := by
      have hxs : (l.map fun x => (x.toNat : Int)).map (Value.int .u8) = bytesV l := by simp [bytesV, byteV, Function.comp_def]
      rw [hxs]
      have := run_loadCells_list (P := Tryd.prog) (w := w) ad (bytesV l) (by
        intro j u hu
        obtain ⟨hj, _⟩ := List.getElem?_eq_some_iff.1 hu
        obtain ⟨b, off, h, hcell⟩ := hx (by intro e; rw [e] at hj; simp at hj)
        cases h
        rw [Addr_add, hcell j hj, hu])
      rw [bytesV_length] at this
      exact this
    rw [run_bytesToString w ad l.length cap _ hload, foldl_push]
    have e : (l.map fun x => (x.toNat : Int)).map (fun n => UInt8.ofNat n.toNat) = l := by
      rw [List.map_map]
      conv => rhs; rw [← List.map_id l]
      refine List.map_congr_left fun x _ => ?_
      simp
    rw [e]
    simp
end Go.Proofs.YtpodphfdoonidaaDoor
