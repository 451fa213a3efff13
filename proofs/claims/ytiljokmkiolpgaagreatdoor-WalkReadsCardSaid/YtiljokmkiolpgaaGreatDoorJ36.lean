/- Lemmas, laid together: part 36 of 42. Conditions: none but each lemma's own. -/
import Derived.Test.YtiljokmkiolpgaaGreatDoorJ35
import Derived.Deep.DeepCutAuto
import Derived.Test.YtiljokmkiolpgaaGreatDoorJ1
namespace Go.Proofs.YtiljokmkiolpgaaGreatDoor
open Go.RowKit
set_option maxRecDepth 100000
set_option linter.unusedSimpArgs false in
set_option maxHeartbeats 8000000 in
theorem Segment5_main (l : List UInt8) (h : opE l = 0) (h2 : n4 l 0 = 25) (h3 : ¬ l.length < 72 + 80 * n4 l 64) (v : Value) (w : World) (rd : byteL.Rd w v l) (hl : l.length ≤ 140737488355328) :
    Calls Tryz.prog 100 #[v] w fun e w' => ∃ (s : Seg) (E : Int), e = .returned (.tuple #[segL.val s, .int .i64 E]) ∧ E = segE l ∧ Chg [] w w' ∧ (E = 0 → s = segX l s.secs ∧ secL.Buf 157 w' w.heap.size (.slice s.secs.a s.secs.n s.secs.cap) (secsN l (n4 l 64))) := by
  have d3 : decide (((l.length : Int) - 72) / 80 < (n4 l 64 : Int)) = false := decide_eq_false (by omega)
  have hse : segE l = if sgFine l (n4 l 64) = false then 9 else if 64 < n4 l 64 then 11 else 0 := by
    unfold segE
    rw [if_neg (by simp [h]), if_neg (by simp [h2]), if_neg h3]
  have H3 := hY h3
  have Hse := hY hse
  clear h3 hse
  have h72 : 72 ≤ l.length := by have := (opE_len h).2; rw [h2] at this; have h3 : leastF ((25 : Nat) : Int) = 72 := by decide
                                 omega
  have hcm := fun w rd => h ▸ Cmd5_any l v w rd
  rw [show cmdN l = 25 by unfold cmdN; rw [if_neg (by omega), h2]] at hcm
  have hf8 := fun w rd => field5_any l 8 (by omega) v w rd
  have ha := fun (p : Nat) (hp : p + 8 ≤ l.length) w rd => at5_any l p 8 (by decide) (by decide) hp v w rd
  have ha4 := fun (p : Nat) (hp : p + 4 ≤ l.length) w rd => at5_any l p 4 (by decide) (by decide) hp v w rd
  have A24 := hY (fun w rd => ha 24 (by omega) w rd)
  have A32 := hY (fun w rd => ha 32 (by omega) w rd)
  have A40 := hY (fun w rd => ha 40 (by omega) w rd)
  have A48 := hY (fun w rd => ha 48 (by omega) w rd)
  have A60 := hY (fun w rd => ha4 60 (by omega) w rd)
  have A64 := hY (fun w rd => ha4 64 (by omega) w rd)
  have hm := n4_lt l 64
  have hmp := n4_lt l 60
  obtain ⟨a, cap, rfl, hc1, hc2⟩ := rd.shape
  have H := hY h
  have RD := hY rd
  have HCM := hY hcm
  have H2 := hY h2
  have F8 := hY hf8
  have Ha := hY ha
  have Ha4 := hY ha4
  clear h rd hcm h2 hf8 ha ha4
  go_enter Tryz.func100, Tryz.ntmps100
  go_wp2_with (with_reducible refine Lay.alQ Tryz.tSg ?_)
  refine hY fun Wa ba eba cba xba => ?_
  go_wp2_with fail
  refine (HCM.out _ (RD.out.frame cba.out)).mono ?_
  rintro e W ⟨rfl, rfl⟩
  go_wp2_with fail
  refine (F8.out _ (RD.out.frame cba.out)).mono ?_
  rintro e W ⟨rfl, rfl⟩
  go_wp2_with fail
  refine (A24.out _ (RD.out.frame cba.out)).mono ?_
  rintro e W ⟨rfl, rfl⟩
  go_wp2_with fail
  refine (A32.out _ (RD.out.frame cba.out)).mono ?_
  rintro e W ⟨rfl, rfl⟩
  go_wp2_with fail
  refine (A40.out _ (RD.out.frame cba.out)).mono ?_
  rintro e W ⟨rfl, rfl⟩
  go_wp2_with fail
  refine (A48.out _ (RD.out.frame cba.out)).mono ?_
  rintro e W ⟨rfl, rfl⟩
  go_wp2_with fail
  refine (A60.out _ (RD.out.frame cba.out)).mono ?_
  rintro e W ⟨rfl, rfl⟩
  rw [show leNum ((l.drop 24).take 8) = n8 l 24 from rfl, show leNum ((l.drop 32).take 8) = n8 l 32 from rfl, show leNum ((l.drop 40).take 8) = n8 l 40 from rfl, show leNum ((l.drop 48).take 8) = n8 l 48 from rfl, show leNum ((l.drop 60).take 4) = n4 l 60 from rfl]
  go_wp2_with (with_reducible refine Lay.alQ Tryz.tSg ?_)
  refine hY fun Wb bs ebs cbs xbs => ?_
  go_wp2_with ((with_reducible refine Lay.stQ Tryz.tSg (segX l ⟨none, 0, 0⟩) (xbs.out) ?_ ?_ ?_); exact rfl; exact rfl)
  refine hY fun V5 cV5 xV5 => ?_
  have hbs : ba < bs := by rw [ebs.out]; exact xba.out.lt
  have XA5 := hY ((xba.out.frame cbs.out).frameS cV5.out (by simp; omega))
  have C5 := hY ((cba.out.then cbs.out).new cV5.out (by have := cba.out.size; rw [ebs.out]; omega))
  have R5 := hY (RD.out.frame C5.out)
  go_wp2_with fail
  refine (A64.out _ R5.out).mono ?_
  rintro e W ⟨rfl, rfl⟩
  rw [show leNum ((l.drop 64).take 4) = n4 l 64 from rfl]
  obtain ⟨N, hN⟩ : ∃ N, N = n4 l 64 := ⟨_, rfl⟩
  rw [← hN] at hm ⊢
  have h3 := H3.out
  have hse := Hse.out
  rw [← hN] at d3 h3 hse
  have HSE := hY hse
  have HN := hY hN
  clear hse hN
  go_wp2_with fail
  refine (A60.out _ R5.out).mono ?_
  rintro e W ⟨rfl, rfl⟩
  rw [show leNum ((l.drop 60).take 4) = n4 l 60 from rfl]
  have hfi : (decide ((7 : Int) < (n4 l 60 : Int))) = !sgFine l 0 := by
    unfold sgFine secsN
    by_cases h7 : n4 l 60 ≤ 7
    · rw [decide_eq_false (by omega), decide_eq_true h7]; rfl
    · rw [decide_eq_true (by omega), decide_eq_false h7]; rfl
  clear d3
  have hord : w.heap.size ≤ ba ∧ bs < W.heap.size := ⟨by rw [eba.out]; exact Nat.le_refl _, xV5.out.lt⟩
  obtain ⟨ho0, ho3⟩ := hord
  have HO1 := hY (hbs)
  obtain ⟨B, hB⟩ : ∃ B, B = W.heap.size := ⟨_, rfl⟩
  rw [← hB] at ho3
  have S0 : Hid (Sg5 w B ba bs (segX l ⟨none, 0, 0⟩) [] W) := hY (⟨xV5.out, Lay.Buf.nil _ _, XA5.out, Nat.le_of_eq hB, C5.out⟩)
  have HB := hY hB
  have HFI := hY hfi
  clear hB hfi
  go_wp2_with fail
  go_loopw [8, 9] (fun s8 s9 wr => ∃ (k : Nat) (sv : SlV), k ≤ N ∧ s9 = .int .i64 (k : Int) ∧ s8 = .bool (!sgFine l k) ∧ Sg5 w B ba bs (segX l sv) (secsN l k) wr) (fun _ s9 _ => N - (intOf s9).toNat)
  case atStart => exact ⟨0, ⟨none, 0, 0⟩, Nat.zero_le _, rfl, by rw [HFI.out], S0.out⟩
  case round =>
    obtain ⟨k, sv, hk, rfl, rfl, hr⟩ := hrel
    by_cases hlt : k < N
    · have dlt : decide ((k : Int) < (N : Int)) = true := decide_eq_true (by omega)
      obtain ⟨ad, k', cd⟩ := sv
      have hxs : (segX l ⟨ad, k', cd⟩).secs = ⟨ad, k', cd⟩ := rfl
      obtain rfl : k' = k := by
        obtain ⟨_, _, he, _, _⟩ := hr.bf.rd.shape
        cases he
        exact secsN_len l _
      obtain ⟨p, hp⟩ : ∃ p, p = 72 + 80 * k' := ⟨_, rfl⟩
      have hp80 : p + 80 ≤ l.length := by omega
      have hne : l.length ≠ 0 := by omega
      have hrw := RD.out.frame hr.chg
      obtain ⟨b, off, rfl, hbb⟩ := hrw.at hne
      clear hbb
      have hsub := Rd_sub hrw p 80 (cap - p) hp80 (by omega) (by unfold maxLen; omega)
      have xc := byte_cell hrw (p + 64) (by omega)
      rw [← Nat.add_assoc] at xc
      obtain ⟨X, hX⟩ : ∃ X, X = secAt l p := ⟨_, rfl⟩
      have hkind : (((l.getD (p + 64) 0).toNat : Nat) : Int) = X.kind := by rw [hX]; show _ = ((n4 l (p + 64) % 256 : Nat) : Int); rw [low_byte l (p + 64) (by omega)]
      obtain ⟨kk, hkk⟩ : ∃ kk : Nat, kk = (l.getD (p + 64) 0).toNat := ⟨_, rfl⟩
      have hk256 : kk < 256 := by rw [hkk]; exact (l.getD (p + 64) 0).toNat_lt
      rw [← hkk] at hkind xc
      have hl80 : ((l.drop p).take 80).length = 80 := by rw [List.length_take, List.length_drop]; omega
      obtain ⟨L', hL'⟩ : ∃ L', L' = (l.drop p).take 80 := ⟨_, rfl⟩
      rw [← hL'] at hsub hl80
      have g0 := fun w rd => field5_any L' 0 (by omega) (.slice (some ⟨b, off + p, none⟩) 80 (cap - p)) w rd
      have g1 := fun w rd => field5_any L' 16 (by omega) (.slice (some ⟨b, off + p, none⟩) 80 (cap - p)) w rd
      have g2 := fun w rd => at5_any L' 32 8 (by decide) (by decide) (by omega) (.slice (some ⟨b, off + p, none⟩) 80 (cap - p)) w rd
      have g3 := fun w rd => at5_any L' 40 8 (by decide) (by decide) (by omega) (.slice (some ⟨b, off + p, none⟩) 80 (cap - p)) w rd
      have g4 := fun w rd => at5_any L' 48 4 (by decide) (by decide) (by omega) (.slice (some ⟨b, off + p, none⟩) 80 (cap - p)) w rd
      have q0 : tx L' 0 = X.name := by rw [hX, hL']; unfold tx; rw [sub_take l p 0 16 (by omega)]; rfl
      have q1 : tx L' 16 = X.seg := by rw [hX, hL']; unfold tx; rw [sub_take l p 16 16 (by omega)]; rfl
      have q2 : ((leNum ((L'.drop 32).take 8) : Nat) : Int) = X.addr := by rw [hX, hL', sub_take l p 32 8 (by omega)]; rfl
      have q3 : ((leNum ((L'.drop 40).take 8) : Nat) : Int) = X.size := by rw [hX, hL', sub_take l p 40 8 (by omega)]; rfl
      have q4 : ((leNum ((L'.drop 48).take 4) : Nat) : Int) = X.off := by rw [hX, hL', sub_take l p 48 4 (by omega)]; rfl
      rw [q0] at g0
      rw [q1] at g1
      rw [q2] at g2
      rw [q3] at g3
      rw [q4] at g4
      rw [hkind] at xc
      have hkb : 0 ≤ X.kind ∧ X.kind < 256 := by rw [← hkind]; omega
      have HKW : Hid (IntKind.i64.wrap X.kind = X.kind) := hY (by rw [IntKind.wrap_i64]; omega)
      clear hkb
      have hsu := sgFine_succ l k'
      rw [← hp, ← hX] at hsu
      have R0 := hY (hr)
      obtain ⟨f, hf⟩ : ∃ f, f = sgFine l k' := ⟨_, rfl⟩
      rw [← hf] at hsu
      rw [← hf]
      clear hr q0 q1 q2 q3 q4
      have HP := hY hp
      have SUB := hY hsub
      have G0 := hY g0
      have G1 := hY g1
      have G2 := hY g2
      have G3 := hY g3
      have G4 := hY g4
      have HX := hY hX
      have Hkind := hY hkind
      have Hkk := hY hkk
      have Hk256 := hY hk256
      have Hl80 := hY hl80
      have HL' := hY hL'
      have Hrw := hY hrw
      have Hp80 := hY hp80
      have Hne := hY hne
      have Hf := hY hf
      have Hsu := hY hsu
      clear hp hsub g0 g1 g2 g3 g4 hX hkind hkk hk256 hl80 hL' hrw hp80 hne hf hsu
      go_upto_region 15 with fail
      rw [show 152 + 80 * k' - (72 + 80 * k') = 80 by omega, ← HP.out]
      go_cut [11] (fun s11 wx => ∃ bx : Nat, s11 = .pointer (some ⟨bx, 0, none⟩) ∧ Sg5 w B ba bs (segX l ⟨ad, k', cd⟩) (secsN l k') wx ∧ secL.Box wx bx X)
      case first =>
        refine wp_region_noPanic ?_
        refine wp_region_held_drew (S := fun w' => Chg [] wr w') (by kernel_rfl) ((Chg.refl _ _).drew) (fun hHeld => ?_)
        refine tkr 0 ?_ hHeld ?_ ?_
        rotate_left
        · intro w hSw
          go_simp
          try with_reducible rfl
        try simp only [Act.put, aS, aZ, aC]
        refine tkr 2 ?_ hHeld ?_ ?_
        rotate_left
        · intro w hSw
          go_simp
          try with_reducible rfl
        try simp only [Act.put, aS, aZ, aC]
        refine tkr 4 ?_ hHeld ?_ ?_
        rotate_left
        · intro w hSw
          go_simp
          try with_reducible rfl
        try simp only [Act.put, aS, aZ, aC]
        refine tkr 6 ?_ hHeld ?_ ?_
        rotate_left
        · intro w hSw
          go_simp
          try with_reducible rfl
        try simp only [Act.put, aS, aZ, aC]
        refine tkr 8 ?_ hHeld ?_ ?_
        rotate_left
        · intro w hSw
          go_simp
          try with_reducible rfl
        try simp only [Act.put, aS, aZ, aC]
        refine tkr 10 ?_ hHeld ?_ ?_
        rotate_left
        · intro w hSw
          go_simp
          try with_reducible rfl
        try simp only [Act.put, aS, aZ, aC]
        refine tkr 11 ?_ hHeld ?_ ?_
        rotate_left
        · intro w hSw
          go_simp
          try with_reducible rfl
        try simp only [Act.put, aS, aZ, aC]
        refine tkr 12 ?_ hHeld ?_ ?_
        rotate_left
        · intro w hSw
          have xc := hSw.cell xc (by simp)
          go_simp
          try with_reducible rfl
        try simp only [Act.put, aS, aZ, aC]
        refine tkr 13 ?_ hHeld ?_ ?_
        rotate_left
        · intro w hSw
          go_simp
          try with_reducible rfl
        try simp only [Act.put, aS, aZ, aC]
        refine wpAnyH_ready (rs := [1, 15]) (by kernel_rfl) (by simp) ?_
        refine AllReadyH.cons rfl (fun K hK => ?_) (AllReadyH.cons rfl (fun K hK => ?_) AllReadyH.nil)
        · go_simp
          refine (G0.out _ (SUB.out.frame hHeld)).mono ?_
          rintro e WG ⟨rfl, rfl⟩
          refine hK.out _ _ hHeld ?_
          clear hK hHeld K
          intro hHeld
          try (unfold Act.put; simp only [aS, aZ, aC])
          refine wpAnyH_ready (rs := [3, 15]) (by kernel_rfl) (by simp) ?_
          refine AllReadyH.cons rfl (fun K hK => ?_) (AllReadyH.cons rfl (fun K hK => ?_) AllReadyH.nil)
          · go_simp
            refine (G1.out _ (SUB.out.frame hHeld)).mono ?_
            rintro e WG ⟨rfl, rfl⟩
            refine hK.out _ _ hHeld ?_
            clear hK hHeld K
            intro hHeld
            try (unfold Act.put; simp only [aS, aZ, aC])
            refine wpAnyH_ready (rs := [5, 15]) (by kernel_rfl) (by simp) ?_
            refine AllReadyH.cons rfl (fun K hK => ?_) (AllReadyH.cons rfl (fun K hK => ?_) AllReadyH.nil)
            · go_simp
              refine (G2.out _ (SUB.out.frame hHeld)).mono ?_
              rintro e WG ⟨rfl, rfl⟩
              refine hK.out _ _ hHeld ?_
              clear hK hHeld K
              intro hHeld
              try (unfold Act.put; simp only [aS, aZ, aC])
              refine wpAnyH_ready (rs := [7, 15]) (by kernel_rfl) (by simp) ?_
              refine AllReadyH.cons rfl (fun K hK => ?_) (AllReadyH.cons rfl (fun K hK => ?_) AllReadyH.nil)
              · go_simp
                refine (G3.out _ (SUB.out.frame hHeld)).mono ?_
                rintro e WG ⟨rfl, rfl⟩
                refine hK.out _ _ hHeld ?_
                clear hK hHeld K
                intro hHeld
                try (unfold Act.put; simp only [aS, aZ, aC])
                refine wpAnyH_ready (rs := [9, 15]) (by kernel_rfl) (by simp) ?_
                refine AllReadyH.cons rfl (fun K hK => ?_) (AllReadyH.cons rfl (fun K hK => ?_) AllReadyH.nil)
                · go_simp
                  refine (G4.out _ (SUB.out.frame hHeld)).mono ?_
                  rintro e WG ⟨rfl, rfl⟩
                  refine hK.out _ _ hHeld ?_
                  clear hK hHeld K
                  intro hHeld
                  try (unfold Act.put; simp only [aS, aZ, aC])
                  refine tkr 14 ?_ hHeld ?_ ?_
                  rotate_left
                  · intro w hSw
                    go_simp
                    try with_reducible rfl
                  try simp only [Act.put, aS, aZ, aC]
                  refine wpAnyH_ready (rs := [15]) (by kernel_rfl) (by simp) ?_
                  refine AllReadyH.cons (by simp only [gA, gC, gZ]; rfl) (fun K hK => ?_) AllReadyH.nil
                  try rw [HKW.out]
                  refine Lay.armAl Tryz.tSec rfl rfl (fun WX bx ebx hcx hxx => ?_)
                  have CX : Hid (Chg [] wr WX) := hY (hHeld.then hcx)
                  have HBX : Hid (wr.heap.size ≤ bx) := hY (by have := hHeld.size; omega)
                  have XX := hY hxx
                  have Hcx := hY hcx
                  clear hxx hcx
                  clear ebx
                  refine hK.out _ _ CX.out ?_
                  clear hK hHeld K
                  intro hHeld
                  try (unfold Act.put; simp only [aS, aZ, aC])
                  refine wpAnyH_ready (rs := [16]) (by kernel_rfl) (by simp) ?_
                  refine AllReadyH.cons (by simp only [gA, gC, gZ]; rfl) (fun K hK => ?_) AllReadyH.nil
                  try rw [HKW.out]
                  refine Lay.armSt Tryz.tSec rfl _ _ rfl rfl X rfl XX.out (fun WY hcy hxy => ?_)
                  have CY : Hid (Chg [] wr WY) := hY (hHeld.new hcy HBX.out)
                  have XY := hY hxy
                  have Hcy := hY hcy
                  clear hxy hcy
                  refine hK.out _ _ CY.out ?_
                  clear hK hHeld K
                  intro hHeld
                  try (unfold Act.put; simp only [aS, aZ, aC])
                  refine wpAnyH_done (by kernel_rfl) ?_ _
                  refine NoPanic.normal ?_
                  go_wp2_with fail
                  go_meet
                  exact ⟨bx, rfl, R0.out.pure CY.out, XY.out⟩
                · try rw [HKW.out]
                  refine Lay.armAl Tryz.tSec rfl rfl (fun WX bx ebx hcx hxx => ?_)
                  have CX : Hid (Chg [] wr WX) := hY (hHeld.then hcx)
                  have HBX : Hid (wr.heap.size ≤ bx) := hY (by have := hHeld.size; omega)
                  have XX := hY hxx
                  have Hcx := hY hcx
                  clear hxx hcx
                  clear ebx
                  refine hK.out _ _ CX.out ?_
                  clear hK hHeld K
                  intro hHeld
                  try (unfold Act.put; simp only [aS, aZ, aC])
                  refine wpAnyH_ready (rs := [9]) (by kernel_rfl) (by simp) ?_
                  refine AllReadyH.cons rfl (fun K hK => ?_) AllReadyH.nil
                  go_simp
                  refine (G4.out _ (SUB.out.frame hHeld)).mono ?_
                  rintro e WG ⟨rfl, rfl⟩
                  refine hK.out _ _ hHeld ?_
                  clear hK hHeld K
                  intro hHeld
                  try (unfold Act.put; simp only [aS, aZ, aC])
                  refine tkr 14 ?_ hHeld ?_ ?_
                  rotate_left
                  · intro w hSw
                    go_simp
                    try with_reducible rfl
                  try simp only [Act.put, aS, aZ, aC]
                  refine wpAnyH_ready (rs := [16]) (by kernel_rfl) (by simp) ?_
                  refine AllReadyH.cons (by simp only [gA, gC, gZ]; rfl) (fun K hK => ?_) AllReadyH.nil
                  try rw [HKW.out]
                  refine Lay.armSt Tryz.tSec rfl _ _ rfl rfl X rfl XX.out (fun WY hcy hxy => ?_)
                  have CY : Hid (Chg [] wr WY) := hY (hHeld.new hcy HBX.out)
                  have XY := hY hxy
                  have Hcy := hY hcy
                  clear hxy hcy
                  refine hK.out _ _ CY.out ?_
                  clear hK hHeld K
                  intro hHeld
                  try (unfold Act.put; simp only [aS, aZ, aC])
                  refine wpAnyH_done (by kernel_rfl) ?_ _
                  refine NoPanic.normal ?_
                  go_wp2_with fail
                  go_meet
                  exact ⟨bx, rfl, R0.out.pure CY.out, XY.out⟩
              · try rw [HKW.out]
                refine Lay.armAl Tryz.tSec rfl rfl (fun WX bx ebx hcx hxx => ?_)
                have CX : Hid (Chg [] wr WX) := hY (hHeld.then hcx)
                have HBX : Hid (wr.heap.size ≤ bx) := hY (by have := hHeld.size; omega)
                have XX := hY hxx
                have Hcx := hY hcx
                clear hxx hcx
                clear ebx
                refine hK.out _ _ CX.out ?_
                clear hK hHeld K
                intro hHeld
                try (unfold Act.put; simp only [aS, aZ, aC])
                refine wpAnyH_ready (rs := [7]) (by kernel_rfl) (by simp) ?_
                refine AllReadyH.cons rfl (fun K hK => ?_) AllReadyH.nil
                go_simp
                refine (G3.out _ (SUB.out.frame hHeld)).mono ?_
                rintro e WG ⟨rfl, rfl⟩
                refine hK.out _ _ hHeld ?_
                clear hK hHeld K
                intro hHeld
                try (unfold Act.put; simp only [aS, aZ, aC])
                refine wpAnyH_ready (rs := [9]) (by kernel_rfl) (by simp) ?_
                refine AllReadyH.cons rfl (fun K hK => ?_) AllReadyH.nil
                go_simp
                refine (G4.out _ (SUB.out.frame hHeld)).mono ?_
                rintro e WG ⟨rfl, rfl⟩
                refine hK.out _ _ hHeld ?_
                clear hK hHeld K
                intro hHeld
                try (unfold Act.put; simp only [aS, aZ, aC])
                refine tkr 14 ?_ hHeld ?_ ?_
                rotate_left
                · intro w hSw
                  go_simp
                  try with_reducible rfl
                try simp only [Act.put, aS, aZ, aC]
                refine wpAnyH_ready (rs := [16]) (by kernel_rfl) (by simp) ?_
                refine AllReadyH.cons (by simp only [gA, gC, gZ]; rfl) (fun K hK => ?_) AllReadyH.nil
                try rw [HKW.out]
                refine Lay.armSt Tryz.tSec rfl _ _ rfl rfl X rfl XX.out (fun WY hcy hxy => ?_)
                have CY : Hid (Chg [] wr WY) := hY (hHeld.new hcy HBX.out)
                have XY := hY hxy
                have Hcy := hY hcy
                clear hxy hcy
                refine hK.out _ _ CY.out ?_
                clear hK hHeld K
                intro hHeld
                try (unfold Act.put; simp only [aS, aZ, aC])
                refine wpAnyH_done (by kernel_rfl) ?_ _
                refine NoPanic.normal ?_
                go_wp2_with fail
                go_meet
                exact ⟨bx, rfl, R0.out.pure CY.out, XY.out⟩
            · try rw [HKW.out]
              refine Lay.armAl Tryz.tSec rfl rfl (fun WX bx ebx hcx hxx => ?_)
              have CX : Hid (Chg [] wr WX) := hY (hHeld.then hcx)
              have HBX : Hid (wr.heap.size ≤ bx) := hY (by have := hHeld.size; omega)
              have XX := hY hxx
              have Hcx := hY hcx
              clear hxx hcx
              clear ebx
              refine hK.out _ _ CX.out ?_
              clear hK hHeld K
              intro hHeld
              try (unfold Act.put; simp only [aS, aZ, aC])
              refine wpAnyH_ready (rs := [5]) (by kernel_rfl) (by simp) ?_
              refine AllReadyH.cons rfl (fun K hK => ?_) AllReadyH.nil
              go_simp
              refine (G2.out _ (SUB.out.frame hHeld)).mono ?_
              rintro e WG ⟨rfl, rfl⟩
              refine hK.out _ _ hHeld ?_
              clear hK hHeld K
              intro hHeld
              try (unfold Act.put; simp only [aS, aZ, aC])
              refine wpAnyH_ready (rs := [7]) (by kernel_rfl) (by simp) ?_
              refine AllReadyH.cons rfl (fun K hK => ?_) AllReadyH.nil
              go_simp
              refine (G3.out _ (SUB.out.frame hHeld)).mono ?_
              rintro e WG ⟨rfl, rfl⟩
              refine hK.out _ _ hHeld ?_
              clear hK hHeld K
              intro hHeld
              try (unfold Act.put; simp only [aS, aZ, aC])
              refine wpAnyH_ready (rs := [9]) (by kernel_rfl) (by simp) ?_
              refine AllReadyH.cons rfl (fun K hK => ?_) AllReadyH.nil
              go_simp
              refine (G4.out _ (SUB.out.frame hHeld)).mono ?_
              rintro e WG ⟨rfl, rfl⟩
              refine hK.out _ _ hHeld ?_
              clear hK hHeld K
              intro hHeld
              try (unfold Act.put; simp only [aS, aZ, aC])
              refine tkr 14 ?_ hHeld ?_ ?_
              rotate_left
              · intro w hSw
                go_simp
                try with_reducible rfl
              try simp only [Act.put, aS, aZ, aC]
              refine wpAnyH_ready (rs := [16]) (by kernel_rfl) (by simp) ?_
              refine AllReadyH.cons (by simp only [gA, gC, gZ]; rfl) (fun K hK => ?_) AllReadyH.nil
              try rw [HKW.out]
              refine Lay.armSt Tryz.tSec rfl _ _ rfl rfl X rfl XX.out (fun WY hcy hxy => ?_)
              have CY : Hid (Chg [] wr WY) := hY (hHeld.new hcy HBX.out)
              have XY := hY hxy
              have Hcy := hY hcy
              clear hxy hcy
              refine hK.out _ _ CY.out ?_
              clear hK hHeld K
              intro hHeld
              try (unfold Act.put; simp only [aS, aZ, aC])
              refine wpAnyH_done (by kernel_rfl) ?_ _
              refine NoPanic.normal ?_
              go_wp2_with fail
              go_meet
              exact ⟨bx, rfl, R0.out.pure CY.out, XY.out⟩
          · try rw [HKW.out]
            refine Lay.armAl Tryz.tSec rfl rfl (fun WX bx ebx hcx hxx => ?_)
            have CX : Hid (Chg [] wr WX) := hY (hHeld.then hcx)
            have HBX : Hid (wr.heap.size ≤ bx) := hY (by have := hHeld.size; omega)
            have XX := hY hxx
            have Hcx := hY hcx
            clear hxx hcx
            clear ebx
            refine hK.out _ _ CX.out ?_
            clear hK hHeld K
            intro hHeld
            try (unfold Act.put; simp only [aS, aZ, aC])
            refine wpAnyH_ready (rs := [3]) (by kernel_rfl) (by simp) ?_
            refine AllReadyH.cons rfl (fun K hK => ?_) AllReadyH.nil
            go_simp
            refine (G1.out _ (SUB.out.frame hHeld)).mono ?_
            rintro e WG ⟨rfl, rfl⟩
            refine hK.out _ _ hHeld ?_
            clear hK hHeld K
            intro hHeld
            try (unfold Act.put; simp only [aS, aZ, aC])
            refine wpAnyH_ready (rs := [5]) (by kernel_rfl) (by simp) ?_
            refine AllReadyH.cons rfl (fun K hK => ?_) AllReadyH.nil
            go_simp
            refine (G2.out _ (SUB.out.frame hHeld)).mono ?_
            rintro e WG ⟨rfl, rfl⟩
            refine hK.out _ _ hHeld ?_
            clear hK hHeld K
            intro hHeld
            try (unfold Act.put; simp only [aS, aZ, aC])
            refine wpAnyH_ready (rs := [7]) (by kernel_rfl) (by simp) ?_
            refine AllReadyH.cons rfl (fun K hK => ?_) AllReadyH.nil
            go_simp
            refine (G3.out _ (SUB.out.frame hHeld)).mono ?_
            rintro e WG ⟨rfl, rfl⟩
            refine hK.out _ _ hHeld ?_
            clear hK hHeld K
            intro hHeld
            try (unfold Act.put; simp only [aS, aZ, aC])
            refine wpAnyH_ready (rs := [9]) (by kernel_rfl) (by simp) ?_
            refine AllReadyH.cons rfl (fun K hK => ?_) AllReadyH.nil
            go_simp
            refine (G4.out _ (SUB.out.frame hHeld)).mono ?_
            rintro e WG ⟨rfl, rfl⟩
            refine hK.out _ _ hHeld ?_
            clear hK hHeld K
            intro hHeld
            try (unfold Act.put; simp only [aS, aZ, aC])
            refine tkr 14 ?_ hHeld ?_ ?_
            rotate_left
            · intro w hSw
              go_simp
              try with_reducible rfl
            try simp only [Act.put, aS, aZ, aC]
            refine wpAnyH_ready (rs := [16]) (by kernel_rfl) (by simp) ?_
            refine AllReadyH.cons (by simp only [gA, gC, gZ]; rfl) (fun K hK => ?_) AllReadyH.nil
            try rw [HKW.out]
            refine Lay.armSt Tryz.tSec rfl _ _ rfl rfl X rfl XX.out (fun WY hcy hxy => ?_)
            have CY : Hid (Chg [] wr WY) := hY (hHeld.new hcy HBX.out)
            have XY := hY hxy
            have Hcy := hY hcy
            clear hxy hcy
            refine hK.out _ _ CY.out ?_
            clear hK hHeld K
            intro hHeld
            try (unfold Act.put; simp only [aS, aZ, aC])
            refine wpAnyH_done (by kernel_rfl) ?_ _
            refine NoPanic.normal ?_
            go_wp2_with fail
            go_meet
            exact ⟨bx, rfl, R0.out.pure CY.out, XY.out⟩
        · try rw [HKW.out]
          refine Lay.armAl Tryz.tSec rfl rfl (fun WX bx ebx hcx hxx => ?_)
          have CX : Hid (Chg [] wr WX) := hY (hHeld.then hcx)
          have HBX : Hid (wr.heap.size ≤ bx) := hY (by have := hHeld.size; omega)
          have XX := hY hxx
          have Hcx := hY hcx
          clear hxx hcx
          clear ebx
          refine hK.out _ _ CX.out ?_
          clear hK hHeld K
          intro hHeld
          try (unfold Act.put; simp only [aS, aZ, aC])
          refine wpAnyH_ready (rs := [1]) (by kernel_rfl) (by simp) ?_
          refine AllReadyH.cons rfl (fun K hK => ?_) AllReadyH.nil
          go_simp
          refine (G0.out _ (SUB.out.frame hHeld)).mono ?_
          rintro e WG ⟨rfl, rfl⟩
          refine hK.out _ _ hHeld ?_
          clear hK hHeld K
          intro hHeld
          try (unfold Act.put; simp only [aS, aZ, aC])
          refine wpAnyH_ready (rs := [3]) (by kernel_rfl) (by simp) ?_
          refine AllReadyH.cons rfl (fun K hK => ?_) AllReadyH.nil
          go_simp
          refine (G1.out _ (SUB.out.frame hHeld)).mono ?_
          rintro e WG ⟨rfl, rfl⟩
          refine hK.out _ _ hHeld ?_
          clear hK hHeld K
          intro hHeld
          try (unfold Act.put; simp only [aS, aZ, aC])
          refine wpAnyH_ready (rs := [5]) (by kernel_rfl) (by simp) ?_
          refine AllReadyH.cons rfl (fun K hK => ?_) AllReadyH.nil
          go_simp
          refine (G2.out _ (SUB.out.frame hHeld)).mono ?_
          rintro e WG ⟨rfl, rfl⟩
          refine hK.out _ _ hHeld ?_
          clear hK hHeld K
          intro hHeld
          try (unfold Act.put; simp only [aS, aZ, aC])
          refine wpAnyH_ready (rs := [7]) (by kernel_rfl) (by simp) ?_
          refine AllReadyH.cons rfl (fun K hK => ?_) AllReadyH.nil
          go_simp
          refine (G3.out _ (SUB.out.frame hHeld)).mono ?_
          rintro e WG ⟨rfl, rfl⟩
          refine hK.out _ _ hHeld ?_
          clear hK hHeld K
          intro hHeld
          try (unfold Act.put; simp only [aS, aZ, aC])
          refine wpAnyH_ready (rs := [9]) (by kernel_rfl) (by simp) ?_
          refine AllReadyH.cons rfl (fun K hK => ?_) AllReadyH.nil
          go_simp
          refine (G4.out _ (SUB.out.frame hHeld)).mono ?_
          rintro e WG ⟨rfl, rfl⟩
          refine hK.out _ _ hHeld ?_
          clear hK hHeld K
          intro hHeld
          try (unfold Act.put; simp only [aS, aZ, aC])
          refine tkr 14 ?_ hHeld ?_ ?_
          rotate_left
          · intro w hSw
            go_simp
            try with_reducible rfl
          try simp only [Act.put, aS, aZ, aC]
          refine wpAnyH_ready (rs := [16]) (by kernel_rfl) (by simp) ?_
          refine AllReadyH.cons (by simp only [gA, gC, gZ]; rfl) (fun K hK => ?_) AllReadyH.nil
          try rw [HKW.out]
          refine Lay.armSt Tryz.tSec rfl _ _ rfl rfl X rfl XX.out (fun WY hcy hxy => ?_)
          have CY : Hid (Chg [] wr WY) := hY (hHeld.new hcy HBX.out)
          have XY := hY hxy
          have Hcy := hY hcy
          clear hxy hcy
          refine hK.out _ _ CY.out ?_
          clear hK hHeld K
          intro hHeld
          try (unfold Act.put; simp only [aS, aZ, aC])
          refine wpAnyH_done (by kernel_rfl) ?_ _
          refine NoPanic.normal ?_
          go_wp2_with fail
          go_meet
          exact ⟨bx, rfl, R0.out.pure CY.out, XY.out⟩
      case rest =>
        obtain ⟨bx, rfl, h1, h2⟩ := hcut
        have R6 := hY h1
        have X5 := hY h2
        clear h1 h2
        have hsu := Hsu.out
        cases f
        · have Hsf : Hid (Value.bool true = Value.bool (!sgFine l (k' + 1))) := hY (by rw [hsu, Bool.false_and]; rfl)
          clear hsu
          have e1 := Sec.c_seg X5.out
          have e2 := Seg.c_name R6.out.bx
          have y6 := Seg.c_secs R6.out.bx
          rw [hxs] at y6
          have z6 := R6.out.bx.frozen 6
          go_wp2_with ((with_reducible refine Lay.ldQ Tryz.tSec X (X5.out.in) ?_ ?_); exact rfl)
          refine hY ?_
          go_wp2_with ((with_reducible refine bs1 (X) (sec_built _) ?_ ?_ ?_); exact rfl; exact rfl; intro VA va cva rva; replace cva := hY cva; replace rva := hY rva; refine Hid.out ?_)
          refine hY ?_
          have RA := hY (R6.out.pure cva.out)
          go_wp2_with (at_builtin; refine Lay.app (L := secL) Tryz.infoSec rfl _ _ rfl B (.slice ad k' cd) (secsN l k') rfl (by have := RA.out.bf; rw [hxs] at this; exact this) _ rfl [X] rva.out (by rw [secsN_len]; simp; omega) (by rw [secsN_len]; simp; omega) (by have := RA.out.sz; exact this) ?_; intro vb VB hov hgv hlc; replace hov := hY hov; replace hgv := hY hgv; clear hlc; refine Hid.out ?_)
          refine hY ?_
          have RB := hY (Sg5.grew RA.out hgv.out HO1.out ho3 ho0)
          have hov := hov.out
          rw [HX.out, HP.out, ← secsN_succ] at hov
          obtain ⟨ab, cb, rfl, hb1, hb2⟩ := hov.rd.shape
          rw [secsN_len] at hov ⊢
          have UB := hY hov
          clear hov
          clear hgv hb1 hb2
          replace y6 := Seg.c_secs RB.out.bx
          rw [hxs] at y6
          replace z6 := RB.out.bx.frozen 6
          go_wp2
          go_roundw
          case rel =>
            exact ⟨k' + 1, ⟨ab, k' + 1, cb⟩, hlt, by go_num, Hsf.out, Sg5.app RB.out UB.out HO1.out ho3 ho0⟩
          case measure => simp [intOf]; omega
        · have Hsf : Hid (Value.bool (X.seg.toList != (segX l ⟨ad, k', cd⟩).name.toList) = Value.bool (!sgFine l (k' + 1))) := hY (by rw [hsu, Bool.true_and, bne, str_beq]; rfl)
          clear hsu
          have e1 := Sec.c_seg X5.out
          have e2 := Seg.c_name R6.out.bx
          have y6 := Seg.c_secs R6.out.bx
          rw [hxs] at y6
          have z6 := R6.out.bx.frozen 6
          go_wp2_with ((with_reducible refine Lay.ldQ Tryz.tSec X (X5.out.in) ?_ ?_); exact rfl)
          refine hY ?_
          go_wp2_with ((with_reducible refine bs1 (X) (sec_built _) ?_ ?_ ?_); exact rfl; exact rfl; intro VA va cva rva; replace cva := hY cva; replace rva := hY rva; refine Hid.out ?_)
          refine hY ?_
          have RA := hY (R6.out.pure cva.out)
          go_wp2_with (at_builtin; refine Lay.app (L := secL) Tryz.infoSec rfl _ _ rfl B (.slice ad k' cd) (secsN l k') rfl (by have := RA.out.bf; rw [hxs] at this; exact this) _ rfl [X] rva.out (by rw [secsN_len]; simp; omega) (by rw [secsN_len]; simp; omega) (by have := RA.out.sz; exact this) ?_; intro vb VB hov hgv hlc; replace hov := hY hov; replace hgv := hY hgv; clear hlc; refine Hid.out ?_)
          refine hY ?_
          have RB := hY (Sg5.grew RA.out hgv.out HO1.out ho3 ho0)
          have hov := hov.out
          rw [HX.out, HP.out, ← secsN_succ] at hov
          obtain ⟨ab, cb, rfl, hb1, hb2⟩ := hov.rd.shape
          rw [secsN_len] at hov ⊢
          have UB := hY hov
          clear hov
          clear hgv hb1 hb2
          replace y6 := Seg.c_secs RB.out.bx
          rw [hxs] at y6
          replace z6 := RB.out.bx.frozen 6
          go_wp2
          go_roundw
          case rel =>
            exact ⟨k' + 1, ⟨ab, k' + 1, cb⟩, hlt, by go_num, Hsf.out, Sg5.app RB.out UB.out HO1.out ho3 ho0⟩
          case measure => simp [intOf]; omega
    · obtain rfl : k = N := by omega
      have dlt : decide ((k : Int) < (k : Int)) = false := decide_eq_false (by omega)
      have R0 := hY (hr)
      clear hr
      obtain ⟨f, hf⟩ : ∃ f, f = sgFine l k := ⟨_, rfl⟩
      have hse := HSE.out
      rw [← hf] at hse
      rw [← hf]
      have Hf := hY hf
      clear hf
      cases f
      · rw [if_pos rfl] at hse
        have HS9 := hY hse
        clear hse
        go_wp2_with ((with_reducible refine Lay.stQ Tryz.tSg (segL.d) (R0.out.ra) ?_ ?_ ?_); exact rfl; exact rfl)
        refine hY fun WE cWE xWE => ?_
        go_wp2
        refine Lay.ret2 Tryz.tSg rfl xWE.out rfl rfl ?_
        exact ⟨_, _, rfl, HS9.out.symm, R0.out.chg.new cWE.out ho0, fun h => absurd h (by decide)⟩
      · rw [if_neg (by decide)] at hse
        by_cases h64 : 64 < k
        · have d64 : decide ((64 : Int) < (k : Int)) = true := decide_eq_true (by omega)
          rw [if_pos h64] at hse
          have HS9 := hY hse
          have H64 := hY h64
          clear hse h64
          go_wp2_with ((with_reducible refine Lay.stQ Tryz.tSg (segL.d) (R0.out.ra) ?_ ?_ ?_); exact rfl; exact rfl)
          refine hY fun WE cWE xWE => ?_
          go_wp2
          refine Lay.ret2 Tryz.tSg rfl xWE.out rfl rfl ?_
          exact ⟨_, _, rfl, HS9.out.symm, R0.out.chg.new cWE.out ho0, fun h => absurd h (by decide)⟩
        · have d64 : decide ((64 : Int) < (k : Int)) = false := decide_eq_false (by omega)
          rw [if_neg h64] at hse
          have HS9 := hY hse
          have H64 := hY h64
          clear hse h64
          go_wp2_with ((with_reducible refine Lay.ldQ Tryz.tSg (segX l sv) (R0.out.bx.in) ?_ ?_); exact rfl)
          refine hY ?_
          go_wp2_with ((with_reducible refine Lay.stQ Tryz.tSg (segX l sv) (R0.out.ra) ?_ ?_ ?_); exact rfl; exact rfl)
          refine hY fun WE cWE xWE => ?_
          go_wp2
          refine Lay.ret2 Tryz.tSg rfl xWE.out rfl rfl ?_
          refine ⟨_, _, rfl, HS9.out.symm, R0.out.chg.new cWE.out ho0, fun _ => ⟨rfl, ?_⟩⟩
          have := (R0.out.bf.frame cWE.out (fun i hi hm => by have := (R0.out.bf.lt i hi).1; simp at hm; omega)).mono (show w.heap.size ≤ B by omega)
          rw [HN.out] at this
          exact this
end Go.Proofs.YtiljokmkiolpgaaGreatDoor
