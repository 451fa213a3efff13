/- Lemmas, laid together: part 33 of 40. Conditions: none but each lemma's own. -/
import Derived.Test.YtkomocgodljecaaGreatDoorJ27
/- clevisref02.Put and PutSigned, walked. -/
namespace Go.Proofs.YtkomocgodljecaaGreatDoor
open Go.RowKit

theorem owned_lit (w : World) (base : Nat) (xs : List Value) (E : TypeId) (n : Nat) (hb : base ≤ w.heap.size) (hn : n = xs.length) (hm : n ≤ maxLen) :
    (w.alloc (.cells xs.toArray E)).ownsRow base E 1 (.slice (some ⟨w.heap.size, 0, none⟩) n n) n xs :=
  ⟨by rw [hn, Nat.mul_one], .inr ⟨w.heap.size, n, _, rfl, hb, heap_alloc_eq w _, Nat.le_refl _, hm, by simp [hn], by rw [hn, Nat.mul_one]; simp⟩⟩
theorem owned_frame {w w' : World} {base : Nat} {e : TypeId} {size : Nat} {v : Value} {n : Nat} {xs : List Value} (h : w.ownsRow base e size v n xs) {S : List Nat} (k : Chg S w w') (hn : ∀ b, v.ownBlock = some b → b ∉ S) : w'.ownsRow base e size v n xs := by
  refine ⟨h.1, ?_⟩
  rcases h.2 with hn' | ⟨g, cap, cur, rfl, hb, hgg, rest⟩
  · exact .inl hn'
  · exact .inr ⟨g, cap, cur, rfl, hb, k.heap hgg (hn g rfl), rest⟩
/-- A row that is not empty lies somewhere. -/
theorem owned_at {w : World} {base : Nat} {e : TypeId} {v : Value} {n : Nat} {xs : List Value} (h : w.ownsRow base e 1 v n xs) (hp : 0 < n) :
    ∃ g cap, v = .slice (some ⟨g, 0, none⟩) n cap ∧ n ≤ cap ∧ cap ≤ maxLen ∧ base ≤ g ∧ g < w.heap.size ∧ ∀ j u, xs[j]? = some u → w.cell? ((⟨g, 0, none⟩ : Addr).add j) = some u := by
  rcases h.2 with ⟨_, h0⟩ | ⟨g, cap, cur, rfl, hb, hg, hnc, hcm, _⟩
  · omega
  · exact ⟨g, cap, rfl, hnc, hcm, hb, lt_of_heap hg, h.cells rfl⟩
theorem bytes_one (l : List UInt8) : ∀ u ∈ bytesV l, u.oneCell' = true := by
  intro u hu
  obtain ⟨x, _, rfl⟩ := List.mem_map.1 hu
  rfl
theorem bytesV_ofNat (x : Nat) (h : x < 256) : bytesV [UInt8.ofNat x] = [.int .u8 x] := by
  have e : (UInt8.ofNat x).toNat = x := by simp; omega
  simp [bytesV, byteV, e]
theorem bytesV_append (a b : List UInt8) : bytesV (a ++ b) = bytesV a ++ bytesV b := by simp [bytesV]

set_option maxRecDepth 100000 in
theorem RefPut_any (f : Nat) : ∀ (n : Nat) (w : World), f ≤ 9 → n < 128 ^ (f + 1) → n < 18446744073709551616 →
    Calls Tryz.prog 20 #[.int .u64 n] w fun e w' => ∃ v, e = .returned v ∧ w'.ownsRow w.heap.size 5 1 v (putUf f n).length (bytesV (putUf f n)) ∧ Chg [] w w' := by
  induction f with
  | zero =>
    intro n w _ hn _
    have h128 : n < 128 := by omega
    have hx : n % 256 = n := by omega
    clear hn
    go_enter Tryz.func20, Tryz.ntmps20
    go_wp2
    go_ret
    refine ⟨_, rfl, ?_, (Chg.refl _ _).alloc _⟩
    rw [putUf_small 0 n h128, bytesV_ofNat n (by omega)]
    exact owned_lit w _ [.int .u8 n] _ 1 (Nat.le_refl _) rfl (by decide)
  | succ f ih =>
    intro n w hf hn hn64
    by_cases h128 : n < 128
    · have HN := Lib.hid hn
      clear hn hn64
      go_enter Tryz.func20, Tryz.ntmps20
      go_wp2
      go_ret
      refine ⟨_, rfl, ?_, (Chg.refl _ _).alloc _⟩
      rw [putUf_small (f + 1) n h128, bytesV_ofNat n (by omega)]
      exact owned_lit w _ [.int .u8 n] _ 1 (Nat.le_refl _) rfl (by decide)
    · obtain ⟨i0, hi, hz0, hz1, hz2⟩ := info_parts Tryz.infoU8
      obtain ⟨q, hq⟩ : ∃ q : Nat, q = n / 128 := ⟨_, rfl⟩
      obtain ⟨x, hx⟩ : ∃ x : Nat, x = n % 128 + 128 := ⟨_, rfl⟩
      have IH := Lib.hid (ih q (w.alloc (.cells #[.int .u8 x] 5)) (by omega) (by rw [hq]; rw [Nat.pow_succ] at hn; omega) (by omega))
      have HQ := Lib.hid hq
      have HX := Lib.hid hx
      have e1 : (n : Int) / 128 = (q : Int) := by omega
      have e2 : (n : Int) % 128 + 128 = (x : Int) := by omega
      have hqb : q ≤ 1000000000000000000 := by omega
      clear hq hx hn hn64 ih
      go_enter Tryz.func20, Tryz.ntmps20
      go_wp2_with fail
      refine (IH.out).mono ?_
      rintro e w1 ⟨v, rfl, hown, hchg⟩
      have hlen := putUf_length f q
      have ho1 := owned_frame (owned_lit w w.heap.size [.int .u8 x] 5 1 (Nat.le_refl _) rfl (by decide)) hchg (fun _ _ hm => by cases hm)
      obtain ⟨g, cap, rfl, hnc, hcm, hbg, hgl, hcells⟩ := owned_at hown hlen.2
      have HO := Lib.hid ho1
      have HC := Lib.hid hcells
      have HCH := Lib.hid ((Chg.refl [] w).alloc (.cells #[.int .u8 x] 5) |>.then hchg)
      have HLE := Lib.hid hlen.1
      have HLV := Lib.hid (show (bytesV (putUf f q)).length = (putUf f q).length * 1 by rw [bytesV_length, Nat.mul_one])
      have hsz := HCH.out.size
      clear hown hchg ho1 hcells hbg
      go_wp2_with (at_builtin; refine wpList_append_own _ rfl _ _ 34 rfl w.heap.size 5 i0 (.int .u8 0) 1 1 Tryz.underlying34 hi hz0 hz1 hz2 rfl (by decide) _ _ _ rfl HO.out ⟨g, 0, none⟩ _ cap (bytesV (putUf f q)) rfl HLV.out HC.out (bytes_one _) (by have := HLE.out; unfold maxLen; omega) (by have := HLE.out; omega) hsz ?_; intro v' w2 hown' hgrow _)
      have HO2 := Lib.hid hown'
      have HGR := Lib.hid hgrow
      clear hown' hgrow
      go_wp2
      go_ret
      refine ⟨_, rfl, ?_, HCH.out.grown HGR.out (fun k hk => .inr (HO.out.lt k hk).1)⟩
      have := HO2.out
      rw [putUf_step f n (by omega), ← HQ.out, ← HX.out, show UInt8.ofNat x :: putUf f q = [UInt8.ofNat x] ++ putUf f q from rfl, bytesV_append, bytesV_ofNat x (by have := HX.out; omega), List.length_append]
      exact this

theorem tmod_g (n : Int) : (wrap64 (n.tmod 128 + 128)).tmod 128 = n % 128 := by
  have h1 : -128 < n.tmod 128 ∧ n.tmod 128 < 128 := ⟨by have := Int.lt_tmod_of_pos n (show (0:Int) < 128 by decide); omega, Int.tmod_lt_of_pos n (by decide)⟩
  have h2 : n.tmod 128 = n - 128 * n.tdiv 128 := Int.tmod_def n 128
  have e : wrap64 (n.tmod 128 + 128) = n.tmod 128 + 128 := by unfold wrap64; omega
  rw [e, Int.tmod_eq_emod_of_nonneg (by omega)]
  omega
theorem tdiv_g (n : Int) (g : Nat) (h : -9223372036854775808 ≤ n ∧ n < 9223372036854775808) (hg : g = (n % 128).toNat) : (wrap64 (n - (g : Int))).tdiv 128 = n / 128 := by
  have e : wrap64 (n - (g : Int)) = 128 * (n / 128) := by unfold wrap64; omega
  rw [e, Int.mul_tdiv_cancel_left _ (by decide)]
set_option maxRecDepth 100000 in
theorem RefPutSigned_any (f : Nat) : ∀ (n : Int) (w : World), f ≤ 9 → (-(64 * 128 ^ f) ≤ n ∧ n < 64 * 128 ^ f) → (-9223372036854775808 ≤ n ∧ n < 9223372036854775808) →
    Calls Tryz.prog 21 #[.int .i64 n] w fun e w' => ∃ v, e = .returned v ∧ w'.ownsRow w.heap.size 5 1 v (putSf f n).length (bytesV (putSf f n)) ∧ Chg [] w w' := by
  induction f with
  | zero =>
    intro n w _ hn hn64
    obtain ⟨h1, h2⟩ : -64 ≤ n ∧ n < 64 := by omega
    obtain ⟨g, hg⟩ : ∃ g : Nat, g = (n % 128).toNat := ⟨_, rfl⟩
    have hg2 : g < 128 := by omega
    have HG := Lib.hid hg
    have hA : (wrap64 (n.tmod 128 + 128)).tmod 128 = (g : Int) := by rw [tmod_g n, hg]; omega
    clear hn hg hn64
    go_enter Tryz.func21, Tryz.ntmps21
    go_wp2
    go_ret
    refine ⟨_, rfl, ?_, (Chg.refl _ _).alloc _⟩
    rw [putSf_small 0 n ⟨h1, h2⟩, ← HG.out, bytesV_ofNat g (by omega)]
    exact owned_lit w _ [.int .u8 g] _ 1 (Nat.le_refl _) rfl (by decide)
  | succ f ih =>
    intro n w hf hn hn64
    obtain ⟨g, hg⟩ : ∃ g : Nat, g = (n % 128).toNat := ⟨_, rfl⟩
    have hg2 : g < 128 := by omega
    have hA : (wrap64 (n.tmod 128 + 128)).tmod 128 = (g : Int) := by rw [tmod_g n, hg]; omega
    by_cases h128 : -64 ≤ n ∧ n < 64
    · obtain ⟨h1, h2⟩ := h128
      have HG := Lib.hid hg
      clear hn hg hn64
      go_enter Tryz.func21, Tryz.ntmps21
      go_wp2
      go_ret
      refine ⟨_, rfl, ?_, (Chg.refl _ _).alloc _⟩
      rw [putSf_small (f + 1) n ⟨h1, h2⟩, ← HG.out, bytesV_ofNat g (by omega)]
      exact owned_lit w _ [.int .u8 g] _ 1 (Nat.le_refl _) rfl (by decide)
    · obtain ⟨i0, hi, hz0, hz1, hz2⟩ := info_parts Tryz.infoU8
      obtain ⟨q, hq⟩ : ∃ q : Int, q = n / 128 := ⟨_, rfl⟩
      obtain ⟨x, hx⟩ : ∃ x : Nat, x = g + 128 := ⟨_, rfl⟩
      have IH := Lib.hid (ih q (w.alloc (.cells #[.int .u8 x] 5)) (by omega) (by rw [hq]; rw [Int.pow_succ] at hn; omega) (by omega))
      have hB : (wrap64 (n - (g : Int))).tdiv 128 = q := by rw [tdiv_g n g hn64 hg, hq]
      have e2 : (g : Int) + 128 = (x : Int) := by omega
      have hq1 : -144115188075855872 ≤ q := by omega
      have hq2 : q ≤ 144115188075855872 := by omega
      have hsp : n < -64 ∨ (-64 ≤ n ∧ 64 ≤ n) := by omega
      have H128 := Lib.hid h128
      have HQ := Lib.hid hq
      have HG := Lib.hid hg
      have HX := Lib.hid hx
      have HN64 := Lib.hid hn64
      have hx256 : x < 256 := by omega
      clear hq hx hn hn64 ih h128 hg
      have fin : ∀ (v : Value) (w1 : World), w1.ownsRow (w.alloc (.cells #[.int .u8 x] 5)).heap.size 5 1 v (putSf f q).length (bytesV (putSf f q)) → Chg [] (w.alloc (.cells #[.int .u8 x] 5)) w1 →
          ∃ g cap, v = .slice (some ⟨g, 0, none⟩) (putSf f q).length cap ∧ w1.ownsRow w.heap.size 5 1 (.slice (some ⟨w.heap.size, 0, none⟩) 1 1) 1 [.int .u8 x] ∧ (∀ j u, (bytesV (putSf f q))[j]? = some u → w1.cell? ((⟨g, 0, none⟩ : Addr).add j) = some u) ∧ Chg [] w w1 ∧ w.heap.size ≤ w1.heap.size := by
        intro v w1 hown hchg
        have ho1 := owned_frame (owned_lit w w.heap.size [.int .u8 x] 5 1 (Nat.le_refl _) rfl (by decide)) hchg (fun _ _ hm => by cases hm)
        obtain ⟨g, cap, rfl, hnc, hcm, hbg, hgl, hcells⟩ := owned_at hown (putSf_length f q).2
        have HCH := (Chg.refl [] w).alloc (.cells #[.int .u8 x] 5) |>.then hchg
        exact ⟨g, cap, rfl, ho1, hcells, HCH, HCH.size⟩
      have HF := Lib.hid fin
      have HLE := Lib.hid (putSf_length f q).1
      have HLV := Lib.hid (show (bytesV (putSf f q)).length = (putSf f q).length * 1 by rw [bytesV_length, Nat.mul_one])
      clear fin
      have hA2 : (x : Int) % 128 = (g : Int) := by have := HG.out; have := HX.out; omega
      have hA3 : n % 128 = (g : Int) := by have := HG.out; omega
      rcases hsp with hsp | ⟨hsp, hsp2⟩
      all_goals
        go_enter Tryz.func21, Tryz.ntmps21
        go_wp2_with fail
        refine (IH.out).mono ?_
        rintro e w1 ⟨v, rfl, hown, hchg⟩
        obtain ⟨g', cap, rfl, ho1, hcells, HCH', hsz⟩ := HF.out v w1 hown hchg
        have HO := Lib.hid ho1
        have HC := Lib.hid hcells
        have HCH := Lib.hid HCH'
        clear hown hchg ho1 hcells HCH'
        go_wp2_with (at_builtin; refine wpList_append_own _ rfl _ _ 34 rfl w.heap.size 5 i0 (.int .u8 0) 1 1 Tryz.underlying34 hi hz0 hz1 hz2 rfl (by decide) _ _ _ rfl HO.out ⟨g', 0, none⟩ _ cap (bytesV (putSf f q)) rfl HLV.out HC.out (bytes_one _) (by have := HLE.out; unfold maxLen; omega) (by have := HLE.out; omega) hsz ?_; intro v' w2 hown' hgrow _)
        have HO2 := Lib.hid hown'
        have HGR := Lib.hid hgrow
        clear hown' hgrow
        go_wp2
        go_ret
        refine ⟨_, rfl, ?_, HCH.out.grown HGR.out (fun k hk => .inr (HO.out.lt k hk).1)⟩
        have := HO2.out
        rw [putSf_step f n H128.out, ← HQ.out, ← HG.out, ← HX.out, show UInt8.ofNat x :: putSf f q = [UInt8.ofNat x] ++ putSf f q from rfl, bytesV_append, bytesV_ofNat x (by have := HX.out; omega), List.length_append]
        exact this
end Go.Proofs.YtkomocgodljecaaGreatDoor
