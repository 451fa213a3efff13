/- clevislaw04.CommandMakes, with nothing behind the file, as a call. -/
import Derived.Test.YtchkombikjcokaaDoorCMadeP
import Derived.Test.YtchkombikjcokaaDoorCRMake
import Derived.Test.YtchkombikjcokaaDoorRRead
import Derived.Test.YtchkombikjcokaaDoorCommandLong
namespace Go.Proofs.YtchkombikjcokaaDoor
open Go.RowKit
set_option maxRecDepth 100000

set_option maxHeartbeats 8000000 in
theorem CMakes_any (w : World) (hg : Env w) (sub kind : Int) (F : Nat) (hF : F < 4294967296) (cs : List Cmd) (a : Option Addr) (cap : Nat) (rd : CmdRd w (.slice a cs.length cap) cs) :
    Calls Tryd.prog 36 #[.agg #[.int .i64 sub, .int .i64 kind, .int .u32 F], .slice a cs.length cap, .slice none 0 0] w fun e w' => e = .returned (.bool true) ∧ Chg [] w w' := by
  have HFEW0 := Lib.hid (fun w rd => fewC_any cs 300 a cap w rd)
  have HG := Lib.hid hg
  have HR := Lib.hid rd
  clear hg rd
  cases hfb : fewC cs 300 with
  | false =>
    rw [hfb] at HFEW0
    clear hfb
    go_enter Tryd.func36, Tryd.ntmps36
    go_wp2_with fail
    refine (HFEW0.out _ (HR.out.frame ((Chg.refl [] w).alloc _))).mono ?_
    rintro e w1 ⟨rfl, rfl⟩
    go_wp2_with fail
    refine (known_cmd _ (HG.out.frame (((Chg.refl [] w).alloc _)) (by simp))).mono ?_
    rintro e wk ⟨rfl, hch⟩
    have HK := Lib.hid ((((Chg.refl [] w).alloc _)).then hch)
    clear hch
    go_wp2
    go_ret
    exact ⟨rfl, HK.out⟩
  | true =>
    rw [hfb] at HFEW0
    obtain ⟨hl3, hb2⟩ := fewC_len hfb
    have HCAT : Hid ((catL cs).length ≤ 600000) := by
      refine Lib.hid ?_
      have := catL_few hb2
      have : cs.length * 2000 ≤ 300 * 2000 := Nat.mul_le_mul_right _ hl3
      omega
    clear hb2 hfb
    have tn : ∀ W : World, (convert 24 9 (.slice none 0 0)).run Tryd.prog W = .ok (.string ⟨#[]⟩) W := fun W => run_str (l := []) (Buf.nil W 0).rd
    cases hk : kindB sub kind with
    | false =>
      have HM := Lib.hid (fun v w => Make_kind sub kind F v w hk)
      have HM2 := Lib.hid (fun v w => CRMake_kind sub kind F v w hk)
      go_enter Tryd.func36, Tryd.ntmps36
      go_wp2_with fail
      obtain ⟨w0, hw0⟩ : ∃ x, x = w.alloc (.cells #[.int .i64 sub, .int .i64 kind, .int .u32 F] 34) := ⟨_, rfl⟩
      obtain ⟨r, hr⟩ : ∃ x, x = w.heap.size := ⟨_, rfl⟩
      have hb := heap_alloc_eq w (.cells #[.int .i64 sub, .int .i64 kind, .int .u32 F] 34)
      have C0 : Hid (Chg [] w w0) := Lib.hid (by rw [hw0]; exact (Chg.refl _ _).alloc _)
      rw [← hw0, ← hr] at hb
      rw [← hw0]
      try rw [← hr]
      clear hw0 hr
      have h0 := cell_of_heap hb 0
      have h1 := cell_of_heap hb 1
      have h2 := cell_of_heap hb 2
      simp at h0 h1 h2
      have BH := Lib.hid hb
      clear hb
      clear hk
      refine (HFEW0.out w0 (HR.out.frame C0.out)).mono ?_
      rintro e w1 ⟨rfl, rfl⟩
      go_wp2_with fail
      refine (HM.out _ w1).mono ?_
      rintro e w2 ⟨rfl, hch⟩
      replace h0 := hch.cell h0 (by simp)
      replace h1 := hch.cell h1 (by simp)
      replace h2 := hch.cell h2 (by simp)
      have C2 := Lib.hid (C0.out.then hch)
      clear hch
      go_wp2_with fail
      refine (HM2.out _ w2).mono ?_
      rintro e w3 ⟨rfl, hch⟩
      have C3 := Lib.hid (C2.out.then hch)
      clear hch h0 h1 h2
      have tn3 := tn w3
      clear tn
      go_wp2_with fail
      refine (known_cmd _ (HG.out.frame (C3.out) (by simp))).mono ?_
      rintro e wk ⟨rfl, hch⟩
      have HK := Lib.hid ((C3.out).then hch)
      clear hch
      go_wp2
      go_ret
      exact ⟨rfl, HK.out⟩
    | true =>
      have hk' : (sub = 0 ∨ sub = 2) ∧ (kind = 2 ∨ kind = 6) := by simpa [kindB] using hk
      obtain ⟨S, rfl⟩ : ∃ S : Nat, sub = S := ⟨sub.toNat, by omega⟩
      obtain ⟨K, rfl⟩ : ∃ K : Nat, kind = K := ⟨kind.toNat, by omega⟩
      clear hk'
      have HM := Lib.hid (fun w hg rd => Make_may S K F hF cs a cap w hg rd (by omega) (by have := HCAT.out; omega) hk)
      have HM2 := Lib.hid (fun w rd => CRMake_may S K F hF cs a cap w rd (by omega) (by have := HCAT.out; omega) hk)
      have HMR := Lib.hid (fun h => made_reads S K F cs hF h)
      have hcat := HCAT.out
      have hml : (makeL S K F cs).length ≤ 600032 := by rw [makeL_len]; omega
      generalize makeE S K cs = E at *
      generalize makeL S K F cs = M at *
      go_enter Tryd.func36, Tryd.ntmps36
      go_wp2_with fail
      obtain ⟨w0, hw0⟩ : ∃ x, x = w.alloc (.cells #[.int .i64 S, .int .i64 K, .int .u32 F] 34) := ⟨_, rfl⟩
      obtain ⟨r, hr⟩ : ∃ x, x = w.heap.size := ⟨_, rfl⟩
      have hb := heap_alloc_eq w (.cells #[.int .i64 S, .int .i64 K, .int .u32 F] 34)
      have C0 : Hid (Chg [] w w0) := Lib.hid (by rw [hw0]; exact (Chg.refl _ _).alloc _)
      rw [← hw0, ← hr] at hb
      rw [← hw0]
      try rw [← hr]
      clear hw0 hr
      have h0 := cell_of_heap hb 0
      have h1 := cell_of_heap hb 1
      have h2 := cell_of_heap hb 2
      simp at h0 h1 h2
      have BH := Lib.hid hb
      clear hb
      clear hk
      refine (HFEW0.out w0 (HR.out.frame C0.out)).mono ?_
      rintro e w1 ⟨rfl, rfl⟩
      go_wp2_with fail
      refine (HM.out w1 (HG.out.frame C0.out (by simp)) (HR.out.frame C0.out)).mono ?_
      rintro e w2 ⟨v, rfl, hv, hvn, hch⟩
      replace h0 := hch.cell h0 (by simp)
      replace h1 := hch.cell h1 (by simp)
      replace h2 := hch.cell h2 (by simp)
      have D2 := Lib.hid (hch)
      have C2 := Lib.hid (C0.out.then hch)
      have HV := Lib.hid (hv)
      clear hch hv
      go_wp2_with fail
      refine (HM2.out w2 (HR.out.frame C2.out)).mono ?_
      rintro e w3 ⟨u, rfl, hu, hun, hch⟩
      replace h0 := hch.cell h0 (by simp)
      replace h1 := hch.cell h1 (by simp)
      replace h2 := hch.cell h2 (by simp)
      have D3 := Lib.hid (hch)
      have C3 := Lib.hid (C2.out.then hch)
      have HU := Lib.hid (hu)
      clear hch hu
      by_cases hE : E = 0
      · subst hE
        have BV := Lib.hid ((HV.out rfl).pure D3.out)
        have BU := Lib.hid (HU.out rfl)
        clear HV HU hvn hun tn HM HM2
        obtain ⟨aV, cV, rfl⟩ := BV.out.form
        obtain ⟨aU, nU, cU, rfl, hnU, _, _, _⟩ := id BU.out
        rw [bytesV_length] at hnU
        subst hnU
        have t1 : (convert 24 9 (.slice aV M.length cV)).run Tryd.prog w3 = .ok (.string ⟨M.toArray⟩) w3 := run_str BV.out.rd
        have t2 : (convert 24 9 (.slice aU M.length cU)).run Tryd.prog w3 = .ok (.string ⟨M.toArray⟩) w3 := run_str BU.out
        go_wp2_with (at_builtin; refine app_buf rfl _ _ rfl w3.heap.size (.slice none 0 0) [] rfl (Buf.nil _ _) _ rfl M BV.out.rd (by simp; omega) (Nat.le_refl _) ?_; intro va wa hoa hga haa; refine Hid.out ?_)
        refine Lib.hid ?_
        have HB0 : Hid (Buf wa w3.heap.size va M) := Lib.hid (hoa)
        have D4 : Hid (Chg [] w3 wa) := Lib.hid ((Chg.refl [] w3).trans (Chg.of_grown hga) (fun i hm _ => by simp [Value.ownBlock] at hm))
        clear hoa hga haa t1 t2
        go_wp2_with (at_builtin; refine app_buf rfl _ _ rfl w3.heap.size va M rfl HB0.out _ rfl [] (Buf.nil _ 0).rd (by simp; omega) D4.out.size ?_; intro vb wb hoa hga haa; refine Hid.out ?_)
        refine Lib.hid ?_
        have HB : Hid (Buf wb w3.heap.size vb M) := Lib.hid (by rw [List.append_nil] at hoa; exact hoa)
        have HVB := Lib.hid (fun b hb => (World.ownsRow.lt HB0.out b hb).1)
        have D5 : Hid (Chg [] w3 wb) := Lib.hid (D4.out.trans (Chg.of_grown hga) (fun i hm hw => by have := HVB.out i (by simpa using hm); omega))
        clear hoa hga haa
        obtain ⟨aB, cB, rfl⟩ := HB.out.form
        obtain ⟨hE0, hS, h12, h24, hNZ, hRC⟩ := HMR.out trivial
        have K1 : Hid (∀ w0 : World, Env w0 → Rd w0 (.slice aB M.length cB) (bytesV M) → Calls Tryd.prog 29 #[.slice aB M.length cB] w0 fun e w' => ∃ v ps base, e = .returned (.tuple #[.agg #[.int .i64 (S : Nat), .int .i64 (K : Nat), .int .u32 (F : Nat)], v, .int .i64 0]) ∧ OutC w' base v ps ∧ ps.map Prod.fst = cs ∧ w0.heap.size ≤ base ∧ Chg [] w0 w') := Lib.hid (fun w0 h1 h2 => by have := Read_any M aB cB w0 h1 h2 (by omega); unfold ReadsAll at this; rw [hE0, hS, h12, h24, hRC] at this; exact this)
        have K3 : Hid (∀ w0 : World, Env w0 → Rd w0 (.slice aB M.length cB) (bytesV M) → Calls Tryd.prog 31 #[.slice aB M.length cB] w0 fun e w' => e = .returned (.tuple #[.int .u64 (M.length : Nat), .int .i64 0]) ∧ Chg [] w0 w') := Lib.hid (fun w0 h1 h2 => by have := Size_any M aB cB w0 h1 h2 (by omega); rw [hE0, hNZ] at this; exact this)
        clear hE0 hS h12 h24 hNZ hRC
        replace h0 := D5.out.cell h0 (by simp)
        replace h1 := D5.out.cell h1 (by simp)
        replace h2 := D5.out.cell h2 (by simp)
        have C5 := Lib.hid (C3.out.then D5.out)
        have hwz : IntKind.u64.wrap (M.length : Int) = (M.length : Int) := by rw [IntKind.wrap_u64]; omega
        go_wp2_with fail
        refine (K1.out wb (HG.out.frame C5.out (by simp)) HB.out.rd).mono ?_
        rintro e w6 ⟨v6, ps, base, rfl, ho, hm, hbs, hch⟩
        have RD1 : Hid (CmdRd w6 v6 cs) := Lib.hid (by have := ho.rd; rw [hm] at this; exact this)
        obtain ⟨aO, nO, cO, rfl, hnO, _⟩ := id RD1.out
        replace h0 := hch.cell h0 (by simp)
        replace h1 := hch.cell h1 (by simp)
        replace h2 := hch.cell h2 (by simp)
        have D6 := Lib.hid (hch)
        clear ho hm hbs hnO hch
        go_wp2_with fail
        obtain ⟨w7, hw7⟩ : ∃ x, x = w6.alloc (.cells #[.int .i64 S, .int .i64 K, .int .u32 F] 34) := ⟨_, rfl⟩
        obtain ⟨r7, hr7⟩ : ∃ x, x = w6.heap.size := ⟨_, rfl⟩
        have bx := heap_alloc_eq w6 (.cells #[.int .i64 S, .int .i64 K, .int .u32 F] 34)
        rw [← hw7, ← hr7] at bx
        have E7 : Hid (Chg [] w6 w7) := Lib.hid (by rw [hw7]; exact (Chg.refl _ _).alloc _)
        rw [← hw7, ← hr7]
        clear hw7 hr7
        replace h0 := E7.out.cell h0 (by simp)
        replace h1 := E7.out.cell h1 (by simp)
        replace h2 := E7.out.cell h2 (by simp)
        have D7 := Lib.hid (D6.out.then E7.out)
        refine (K3.out w7 (HG.out.frame (C5.out.then D7.out) (by simp)) (HB.out.pure D7.out).rd).mono ?_
        rintro e w8 ⟨rfl, hch⟩
        replace h0 := hch.cell h0 (by simp)
        replace h1 := hch.cell h1 (by simp)
        replace h2 := hch.cell h2 (by simp)
        replace bx := hch.heap bx (by simp)
        have x0 := cell_of_heap bx 0
        have x1 := cell_of_heap bx 1
        have x2 := cell_of_heap bx 2
        simp at x0 x1 x2
        have D8 := Lib.hid (D7.out.then hch)
        have RD8 := Lib.hid (RD1.out.frame (E7.out.then hch))
        have C8 := Lib.hid (C5.out.then D8.out)
        clear bx hch K1 K3 RD1
        go_wp2_with fail
        refine (cmds_same cs _ _ w8 RD8.out (HR.out.frame C8.out) (by omega)).mono ?_
        rintro e w9 ⟨rfl, hch⟩
        have C9 := Lib.hid (C8.out.then hch)
        clear hch h0 h1 h2 x0 x1 x2
        go_wp2_with fail
        refine (known_cmd _ (HG.out.frame (C9.out) (by simp))).mono ?_
        rintro e wk ⟨rfl, hch⟩
        have HK := Lib.hid ((C9.out).then hch)
        clear hch
        go_wp2
        go_ret
        exact ⟨rfl, HK.out⟩
      · have v1 := hvn hE
        have u1 := hun hE
        subst v1 u1
        have tn3 := tn w3
        clear tn hvn hun HV HU
        have k0 : (E != 0) = true := by rw [bne_iff_ne]; exact hE
        clear hE
        go_wp2_with fail
        refine (known_cmd _ (HG.out.frame (C3.out) (by simp))).mono ?_
        rintro e wk ⟨rfl, hch⟩
        have HK := Lib.hid ((C3.out).then hch)
        clear hch
        go_wp2
        go_ret
        exact ⟨rfl, HK.out⟩
end Go.Proofs.YtchkombikjcokaaDoor
