/- command.Make, walked. -/
import Derived.Test.YtchkombikjcokaaDoorMay
namespace Go.Proofs.YtchkombikjcokaaDoor
open Go.RowKit
set_option maxRecDepth 100000

/-- A command's number, its bytes. -/
abbrev Cmd := Nat × List UInt8
/-- The slice value v of commands reads as cs. -/
def CmdRd (w : World) (v : Value) (cs : List Cmd) : Prop :=
  ∃ a n cap, v = .slice a n cap ∧ n = cs.length ∧ n ≤ cap ∧ cap ≤ maxLen ∧
    (cs ≠ [] → ∃ b off, a = some ⟨b, off, none⟩ ∧ b < w.heap.size ∧ ∀ j, j < cs.length → w.cell? ⟨b, off + j * 2, none⟩ = some (.int .u32 (cs.getD j (0, [])).1) ∧
      ∃ a' cap', w.cell? ⟨b, off + j * 2 + 1, none⟩ = some (.slice a' (cs.getD j (0, [])).2.length cap') ∧ Rd w (.slice a' (cs.getD j (0, [])).2.length cap') (bytesV (cs.getD j (0, [])).2))
theorem CmdRd.frame {w w' : World} {v : Value} {cs : List Cmd} (h : CmdRd w v cs) (k : Chg [] w w') : CmdRd w' v cs := by
  obtain ⟨a, n, cap, rfl, hn, hc, hm, hx⟩ := h
  refine ⟨a, n, cap, rfl, hn, hc, hm, fun hne => ?_⟩
  obtain ⟨b, off, rfl, hb, hcell⟩ := hx hne
  refine ⟨b, off, rfl, Nat.lt_of_lt_of_le hb k.size, fun j hj => ?_⟩
  obtain ⟨h1, a', cap', h2, h3⟩ := hcell j hj
  exact ⟨k.cell h1 (by simp), a', cap', k.cell h2 (by simp), h3.frame k (fun _ _ hm => by cases hm)⟩
def catL (cs : List Cmd) : List UInt8 := cs.flatMap (·.2)
theorem catL_snoc (cs : List Cmd) (k : Nat) (h : k < cs.length) : catL (cs.take (k + 1)) = catL (cs.take k) ++ (cs.getD k (0, [])).2 := by
  unfold catL
  rw [List.take_succ_eq_append_getElem h, List.flatMap_append]
  simp [List.getD_eq_getElem?_getD, h]
theorem catL_take_le (cs : List Cmd) (k : Nat) : (catL (cs.take k)).length ≤ (catL cs).length := by
  unfold catL
  conv => rhs; rw [← List.take_append_drop k cs, List.flatMap_append, List.length_append]
  omega
theorem catL_get_le (cs : List Cmd) (k : Nat) (h : k < cs.length) : (catL (cs.take k)).length + (cs.getD k (0, [])).2.length ≤ (catL cs).length := by
  have h1 := catL_snoc cs k h
  have h2 := catL_take_le cs (k + 1)
  rw [h1, List.length_append] at h2
  exact h2

def words (sub kind flags : Nat) (cs : List Cmd) : List Nat := [4277009103, 16777228, sub, kind, cs.length, (catL cs).length, flags, 0]
def headL (ws : List Nat) : List UInt8 := ws.flatMap le4
def makeL (sub kind flags : Nat) (cs : List Cmd) : List UInt8 := headL (words sub kind flags cs) ++ catL cs
def makeE (sub kind : Int) (cs : List Cmd) : Int :=
  if kindB sub kind = false then 2 else if (cs.all fun c => mayB c.1 c.2) = false then 2 else if 256 < cs.length ∨ 1048576 < 32 + (catL cs).length then 11 else 0

theorem Make_kind (sub kind : Int) (fl : Int) (v : Value) (w : World) (h : kindB sub kind = false) :
    Calls Tryd.prog 15 #[.agg #[.int .i64 sub, .int .i64 kind, .int .u32 fl], v] w fun e w' => e = .returned (.tuple #[.slice none 0 0, .int .i64 2]) ∧ Chg [] w w' := by
  have H := Lib.hid h
  clear h
  go_enter Tryd.func15, Tryd.ntmps15
  go_wp2_with fail
  refine (kind_no sub kind _ _ H.out).mono ?_
  rintro e w1 ⟨rfl, hch⟩
  generalize (if sub = 0 ∨ sub = 2 then (7 : Int) else 6) = q
  have Hch := Lib.hid hch
  clear hch
  go_wp2
  go_ret2
  exact ⟨rfl, ((Chg.refl _ _).alloc _).then Hch.out⟩

set_option maxHeartbeats 2000000 in
theorem Make_may (sub kind fl : Nat) (hfl : fl < 4294967296) (cs : List Cmd) (a : Option Addr) (cap : Nat) (w : World) (hg : Env w) (rd : CmdRd w (.slice a cs.length cap) cs) (hlen : cs.length ≤ 1048576) (hl : (catL cs).length ≤ 70368744177664) (h : kindB sub kind = true) :
    Calls Tryd.prog 15 #[.agg #[.int .i64 sub, .int .i64 kind, .int .u32 fl], .slice a cs.length cap] w fun e w' => ∃ v, e = .returned (.tuple #[v, .int .i64 (makeE sub kind cs)]) ∧
      (makeE sub kind cs = 0 → Buf w' w.heap.size v (makeL sub kind fl cs)) ∧ (makeE sub kind cs ≠ 0 → v = .slice none 0 0) ∧ Chg [] w w' := by
  have hk' : (sub = 0 ∨ sub = 2) ∧ (kind = 2 ∨ kind = 6) := by
    have : ((sub : Int) = 0 ∨ (sub : Int) = 2) ∧ ((kind : Int) = 2 ∨ (kind : Int) = 6) := by simpa [kindB] using h
    omega
  have hsub : sub ≤ 2 := by omega
  have hkind : kind ≤ 6 := by omega
  have Hg := Lib.hid hg
  have HR := Lib.hid rd
  have H := Lib.hid h
  clear hg rd h
  clear hk'
  go_enter Tryd.func15, Tryd.ntmps15
  go_wp2_with fail
  obtain ⟨w0, hw0⟩ : ∃ w0, w0 = w.alloc (.cells #[.int .i64 sub, .int .i64 kind, .int .u32 fl] 34) := ⟨_, rfl⟩
  obtain ⟨r, hr⟩ : ∃ r, r = w.heap.size := ⟨_, rfl⟩
  have HH : Hid (w0.heap[r]? = some (.cells #[.int .i64 sub, .int .i64 kind, .int .u32 fl] 34 (0, 0))) := Lib.hid (by rw [hw0, hr]; exact heap_alloc_eq _ _)
  have HW0 : Hid (Chg [] w w0) := Lib.hid (by rw [hw0]; exact (Chg.refl _ _).alloc _)
  rw [← hr, ← hw0]
  clear hw0 hr
  refine (kind_ok sub kind _ _ H.out).mono ?_
  rintro e w1 ⟨rfl, hch⟩
  have HC1 := Lib.hid (hch)
  clear hch
  go_wp2_with fail
  go_loopw [6, 17] (fun s6 s17 wr => ∃ k : Nat, k ≤ cs.length ∧ s17 = .int .i64 (k : Int) ∧ (∀ c ∈ cs.take k, mayB c.1 c.2 = true) ∧ Buf wr w0.heap.size s6 (catL (cs.take k)) ∧ Chg [] w0 wr) (fun _ s17 _ => cs.length - (intOf s17).toNat)
  case atStart => exact ⟨0, Nat.zero_le _, rfl, by simp, Buf.nil _ _, HC1.out⟩
  case round =>
    obtain ⟨k, hk, rfl, hall, hbuf, hch⟩ := hrel
    have Hall := Lib.hid hall
    have Hbuf := Lib.hid hbuf
    have Hch := Lib.hid hch
    clear hall hbuf hch
    by_cases hlt : k < cs.length
    · obtain ⟨a', n', cap', he, _, _, _, hx⟩ := HR.out
      cases he
      obtain ⟨b, off, rfl, hb, hcell⟩ := hx (by rintro rfl; simp at hlt)
      obtain ⟨h1, a2, cap2, h2, h3⟩ := hcell k hlt
      obtain ⟨c, hc⟩ : ∃ c, c = cs.getD k (0, []) := ⟨_, rfl⟩
      rw [← hc] at h1 h2 h3
      have hs := catL_snoc cs k hlt
      have hle := catL_get_le cs k hlt
      rw [← hc] at hs hle
      have HS := Lib.hid (hs)
      have HMEM : Hid (c ∈ cs) := Lib.hid (by rw [hc]; simp [List.getD_eq_getElem?_getD, hlt])
      have HCK : Hid (cs.take (k + 1) = cs.take k ++ [c]) := Lib.hid (by rw [List.take_succ_eq_append_getElem hlt, hc]; simp [List.getD_eq_getElem?_getD, hlt])
      have k1 := (HW0.out.then Hch.out).cell h1 (by simp)
      have k2 := (HW0.out.then Hch.out).cell h2 (by simp)
      have HR3 := Lib.hid (h3.frame (HW0.out.then Hch.out) (fun _ _ hm => by cases hm))
      clear h1 h2 h3 hcell hx hc hs
      obtain ⟨m, l⟩ := c
      have hle2 : l.length ≤ 70368744177664 := by simp only at hle; omega
      have hle3 : (catL (cs.take k)).length + l.length ≤ 140737488355328 := by simp only at hle; omega
      go_wp2_with fail
      obtain ⟨w3, hw3⟩ : ∃ w3, w3 = wr.alloc (.cells #[.int .u32 m, .slice a2 l.length cap2] 26) := ⟨_, rfl⟩
      obtain ⟨q, hq⟩ : ∃ q, q = wr.heap.size := ⟨_, rfl⟩
      have HQ : Hid (w3.heap[q]? = some (.cells #[.int .u32 m, .slice a2 l.length cap2] 26 (0, 0))) := Lib.hid (by rw [hw3, hq]; exact heap_alloc_eq _ _)
      have HW3 : Hid (Chg [] wr w3) := Lib.hid (by rw [hw3]; exact (Chg.refl _ _).alloc _)
      rw [← hq, ← hw3]
      clear hw3 hq k1 k2
      refine (May_any m l a2 cap2 w3 (HR3.out.frame HW3.out (fun _ _ hm => by cases hm)) hle2 (Hg.out.frame ((HW0.out.then Hch.out).then HW3.out) (by simp))).mono ?_
      rintro e w4 ⟨rfl, hch4⟩
      have HC4 := Lib.hid (HW3.out.then hch4)
      have hq4 := hch4.heap HQ.out (by simp)
      have c1 := cell_of_heap hq4 1
      simp at c1
      clear hch4 hq4
      cases hmay : mayB m l with
      | false =>
        have HE : Hid (makeE sub kind cs = 2) := by
          refine Lib.hid ?_
          unfold makeE
          rw [H.out, if_neg (by decide), if_pos]
          rw [List.all_eq_false]
          exact ⟨_, HMEM.out, by simpa using hmay⟩
        clear hmay
        go_wp2
        go_ret2
        rw [HE.out]
        exact ⟨_, rfl, fun h => absurd h (by decide), fun _ => rfl, HW0.out.then (Hch.out.then HC4.out)⟩
      | true =>
        have HMAY := Lib.hid (hmay)
        clear hmay
        go_wp2_with (at_builtin; refine app_buf rfl _ _ rfl w0.heap.size u6 (catL (cs.take k)) rfl (Hbuf.out.pure HC4.out) _ rfl l (HR3.out.frame HC4.out (fun _ _ hm => by cases hm)) hle3 (Hch.out.then HC4.out).size ?_; intro va wa hoa hga haa; refine Hid.out ?_)
        refine Lib.hid ?_
        have HB5 : Hid (Buf wa w0.heap.size va (catL (cs.take (k + 1)))) := Lib.hid (by rw [HS.out]; exact hoa)
        have HC5 : Hid (Chg [] w0 wa) := Lib.hid ((Hch.out.then HC4.out).trans (Chg.of_grown hga) (fun i hm hi => by have := (World.ownsRow.lt Hbuf.out i (by simpa using hm)).1; omega))
        have HA5 : Hid (∀ c ∈ cs.take (k + 1), mayB c.1 c.2 = true) := by
          refine Lib.hid ?_
          rw [HCK.out]
          intro c hc
          rw [List.mem_append, List.mem_singleton] at hc
          rcases hc with hc | rfl
          · exact Hall.out c hc
          · exact HMAY.out
        clear hoa hga haa
        go_wp2
        go_roundw
        case rel => exact ⟨k + 1, by omega, by go_num, HA5.out, HB5.out, HC5.out⟩
        case measure => simp [intOf]; omega
    · obtain rfl : k = cs.length := by omega
      rw [List.take_length] at Hall Hbuf
      have HALL : Hid ((cs.all fun c => mayB c.1 c.2) = true) := Lib.hid (List.all_eq_true.2 Hall.out)
      obtain ⟨aL, capL, rfl⟩ := Hbuf.out.form
      obtain ⟨T, hT⟩ : ∃ T, T = (catL cs).length := ⟨_, rfl⟩
      rw [← hT] at hl Hbuf
      rw [← hT]
      have HT := Lib.hid (hT)
      clear hT
      by_cases h1 : 256 < cs.length
      · have d1 : decide ((256 : Int) < cs.length) = true := by simp; omega
        have HE : Hid (makeE sub kind cs = 11) := by
          refine Lib.hid ?_
          unfold makeE
          rw [H.out, if_neg (by decide), HALL.out, if_neg (by decide), if_pos (.inl h1)]
        go_wp2
        go_ret2
        rw [HE.out]
        exact ⟨_, rfl, fun h => absurd h (by decide), fun _ => rfl, HW0.out.then Hch.out⟩
      · have d1 : decide ((256 : Int) < cs.length) = false := by simp; omega
        by_cases h2 : 1048576 < 32 + T
        · have d2 : decide ((1048576 : Int) < 32 + T) = true := by simp; omega
          have HE : Hid (makeE sub kind cs = 11) := by
            refine Lib.hid ?_
            unfold makeE
            rw [H.out, if_neg (by decide), HALL.out, if_neg (by decide), if_pos (.inr (by rw [← HT.out]; exact h2))]
          go_wp2
          go_ret2
          rw [HE.out]
          exact ⟨_, rfl, fun h => absurd h (by decide), fun _ => rfl, HW0.out.then Hch.out⟩
        · have d2 : decide ((1048576 : Int) < 32 + T) = false := by simp; omega
          have HE : Hid (makeE sub kind cs = 0) := by
            refine Lib.hid ?_
            unfold makeE
            rw [H.out, if_neg (by decide), HALL.out, if_neg (by decide), if_neg (by rw [← HT.out]; omega)]
          have hh := Hch.out.heap HH.out (by simp)
          have c0 := cell_of_heap hh 0
          have c1 := cell_of_heap hh 1
          have c2 := cell_of_heap hh 2
          simp at c0 c1 c2
          clear hh
          go_wp2_with fail
          obtain ⟨ws, hws⟩ : ∃ ws : List Nat, ws = words sub kind fl cs := ⟨_, rfl⟩
          obtain ⟨w5, hw5⟩ : ∃ w5, w5 = wr.alloc (.cells #[.int .u32 4277009103, .int .u32 16777228, .int .u32 sub, .int .u32 kind, .int .u32 cs.length, .int .u32 T, .int .u32 fl, .int .u32 0] 22) := ⟨_, rfl⟩
          obtain ⟨q, hq⟩ : ∃ q, q = wr.heap.size := ⟨_, rfl⟩
          have HQ : Hid (w5.heap[q]? = some (.cells (ws.map fun n : Nat => Value.int .u32 (n : Int)).toArray 22 (0, 0))) := by
            refine Lib.hid ?_
            rw [hw5, hq, hws]
            refine (heap_alloc_eq _ _).trans ?_
            unfold words
            rw [← HT.out]
            rfl
          have HWL : Hid (ws.length = 8) := Lib.hid (by rw [hws]; rfl)
          have HWB : Hid (∀ n ∈ ws, n < 4294967296) := by
            refine Lib.hid ?_
            rw [hws]
            unfold words
            rw [← HT.out]
            intro n hn
            simp only [List.mem_cons, List.not_mem_nil, or_false] at hn
            omega
          have HWS := Lib.hid (hws)
          have HW5 : Hid (Chg [] wr w5) := Lib.hid (by rw [hw5]; exact (Chg.refl _ _).alloc _)
          rw [← hq, ← hw5]
          clear hw5 hq hws c0 c1 c2
          obtain ⟨wo, rfl⟩ : ∃ wo, wo = wr := ⟨_, rfl⟩
          go_loopw [9, 54] (fun s9 s54 wl => ∃ j : Nat, j ≤ 8 ∧ s54 = .int .i64 (j : Int) ∧ Buf wl w5.heap.size s9 (headL (ws.take j)) ∧ Chg [] w5 wl) (fun _ s54 _ => 8 - (intOf s54).toNat)
          case atStart => exact ⟨0, by omega, rfl, Buf.nil _ _, Chg.refl _ _⟩
          case round =>
            obtain ⟨j, hj, rfl, hb9, hch9⟩ := hrel
            have H9 := Lib.hid (hb9)
            have HC9 := Lib.hid (hch9)
            clear hb9 hch9
            obtain ⟨wq, rfl⟩ : ∃ wq, wq = wr := ⟨_, rfl⟩
            by_cases hlt : j < 8
            · obtain ⟨n, hn⟩ : ∃ n, n = ws.getD j 0 := ⟨_, rfl⟩
              have hjw : j < ws.length := by rw [HWL.out]; exact hlt
              have hcell := cell_of_heap (HC9.out.heap HQ.out (by simp)) j
              have hcn : (ws.map fun n : Nat => Value.int .u32 (n : Int)).toArray[j]? = some (.int .u32 (n : Int)) := by rw [hn]; simp [List.getD_eq_getElem?_getD, hjw]
              rw [hcn] at hcell
              have HN : Hid (n < 4294967296) := Lib.hid (HWB.out n (by rw [hn]; simp [List.getD_eq_getElem?_getD, hjw]))
              have HS : Hid (headL (ws.take (j + 1)) = headL (ws.take j) ++ le4 n) := by
                refine Lib.hid ?_
                unfold headL
                rw [List.take_succ_eq_append_getElem hjw, List.flatMap_append, hn]
                simp [List.getD_eq_getElem?_getD, hjw]
              have hl9 : (headL (ws.take j)).length ≤ 70368744177664 := by
                unfold headL
                have : ∀ l : List Nat, (l.flatMap le4).length = 4 * l.length := fun l => by
                  induction l with
                  | nil => rfl
                  | cons a l ih => simp only [List.flatMap_cons, List.length_append, ih, List.length_cons]; show 4 + _ = _; omega
                rw [this, List.length_take]
                omega
              have HL9 := Lib.hid (hl9)
              clear hn hjw hcn hl9
              go_wp2_with fail
              refine (put_any _ _ n HN.out w5.heap.size wq H9.out HC9.out.size HL9.out).mono ?_
              rintro e wz ⟨vz, rfl, hgz⟩
              have HBZ : Hid (Buf wz w5.heap.size vz (headL (ws.take (j + 1)))) := Lib.hid (by rw [HS.out]; exact hgz.buf)
              have HCZ : Hid (Chg [] w5 wz) := Lib.hid (hgz.pure0 H9.out HC9.out (Nat.le_refl _))
              clear hgz
              go_wp2
              go_roundw
              case rel => exact ⟨j + 1, by omega, by go_num, HBZ.out, HCZ.out⟩
              case measure => simp [intOf]; omega
            · obtain rfl : j = 8 := by omega
              rw [List.take_of_length_le (Nat.le_of_eq HWL.out)] at H9
              have hl9 : (headL ws).length = 32 := by rw [HWS.out]; rfl
              have HL9 := Lib.hid (hl9)
              clear hl9
              have HB9 : Hid (Buf wq w0.heap.size (.slice aL T capL) (catL cs)) := Lib.hid (by rw [HT.out]; rw [HT.out] at Hbuf; exact (Hbuf.out.pure HW5.out).pure HC9.out)
              have HMK : Hid (makeL sub kind fl cs = headL ws ++ catL cs) := Lib.hid (by unfold makeL; rw [← HWS.out])
              go_wp2_with (at_builtin; refine app_buf rfl _ _ rfl w5.heap.size u9 (headL ws) rfl H9.out _ rfl (catL cs) HB9.out.rd (by have := HL9.out; have := HT.out; omega) HC9.out.size ?_; intro va wa hoa hga haa; refine Hid.out ?_)
              refine Lib.hid ?_
              have HBF : Hid (Buf wa w.heap.size va (makeL sub kind fl cs)) := Lib.hid (by rw [HMK.out]; exact Buf.mono hoa (Nat.le_trans (HW0.out.then (Hch.out.then HW5.out)).size (Nat.le_refl _)))
              have HCF : Hid (Chg [] w5 wa) := Lib.hid (HC9.out.trans (Chg.of_grown hga) (fun i hm hi => by have := (World.ownsRow.lt H9.out i (by simpa using hm)).1; omega))
              clear hoa hga haa
              go_wp2
              go_ret2
              rw [HE.out]
              exact ⟨_, rfl, fun _ => HBF.out, fun h => absurd rfl h, HW0.out.then (Hch.out.then (HW5.out.then HCF.out))⟩
end Go.Proofs.YtchkombikjcokaaDoor
