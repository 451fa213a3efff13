/- clevislaw04.CommandReads. -/
import Derived.Test.YtchkombikjcokaaDoorRRead
import Derived.Test.YtchkombikjcokaaDoorCommandLong
namespace Go.Proofs.YtchkombikjcokaaDoor
open Go.RowKit
set_option maxRecDepth 100000

/-- A row of commands, as cells. -/
theorem row_cells {w : World} {base : Nat} {v : Value} {ps : List (Cmd × Value)} (h : w.ownsRow base 26 2 v ps.length (cmdV ps)) (hne : ps.length ≠ 0) :
    ∃ g off cap, v = .slice (some ⟨g, off, none⟩) ps.length cap ∧ base ≤ g ∧ v.ownBlock = some g ∧ ∀ j < ps.length, w.cell? ⟨g, off + j * 2, none⟩ = some (.int .u32 ((ps.getD j ((0, []), .nilIface)).1.1 : Nat)) ∧ w.cell? ⟨g, off + j * 2 + 1, none⟩ = some (ps.getD j ((0, []), .nilIface)).2 := by
  obtain ⟨hl, hv⟩ := h
  rcases hv with ⟨rfl, h0⟩ | ⟨g, cap, cur, rfl, hb, hg, hnc, hcm, hcs, htake⟩
  · exact absurd h0 hne
  · refine ⟨g, 0, cap, rfl, hb, rfl, fun j hj => ?_⟩
    have key : ∀ c, c < 2 → w.cell? ⟨g, 0 + j * 2 + c, none⟩ = #[Value.int .u32 ((ps.getD j ((0, []), .nilIface)).1.1 : Nat), (ps.getD j ((0, []), .nilIface)).2][c]? := fun c hc => by
      rw [cell_of_heap hg, ← cmdV_get ps j c hj hc, ← htake, List.getElem?_take, if_pos (by omega), Nat.zero_add]
      simp
    exact ⟨key 0 (by decide), key 1 (by decide)⟩
/-- A block of bytes, whatever they are. -/
def Octs (w : World) (g off n : Nat) : Prop := ∃ cur : Array Value, w.heap[g]? = some (.cells cur 5 (0, 0)) ∧ ∀ j < n, ∃ x : Nat, x < 256 ∧ cur[off + j]? = some (.int .u8 (x : Int))
theorem Octs.of {w : World} {base : Nat} {v : Value} {l : List UInt8} (h : Buf w base v l) (hne : l.length ≠ 0) :
    ∃ g off cap, v = .slice (some ⟨g, off, none⟩) l.length cap ∧ base ≤ g ∧ v.ownBlock = some g ∧ Octs w g off l.length := by
  obtain ⟨hl, hv⟩ := h
  rcases hv with ⟨rfl, h0⟩ | ⟨g, cap, cur, rfl, hb, hg, hnc, hcm, hcs, htake⟩
  · exact absurd h0 hne
  · refine ⟨g, 0, cap, rfl, hb, rfl, cur, hg, fun j hj => ⟨(l.getD j 0).toNat, UInt8.toNat_lt _, ?_⟩⟩
    have := bytesV_get l j hj
    rw [← htake, List.getElem?_take, if_pos (by omega)] at this
    rw [Nat.zero_add, ← this]
    simp
theorem Octs.frame {w w' : World} {g off n : Nat} (h : Octs w g off n) {S : List Nat} (k : Chg S w w') (hg : g ∉ S) : Octs w' g off n := by
  obtain ⟨cur, h1, h2⟩ := h
  exact ⟨cur, k.heap h1 hg, h2⟩
theorem Octs.set {w : World} {g off n : Nat} (h : Octs w g off n) (k : Nat) (x : Nat) (hx : x < 256) : Octs (w.setCell ⟨g, off + k, none⟩ (.int .u8 (x : Int))) g off n := by
  obtain ⟨cur, h1, h2⟩ := h
  refine ⟨_, heap_setCell h1 _ _, fun j hj => ?_⟩
  obtain ⟨y, hy, hc⟩ := h2 j hj
  rw [Array.getElem?_setIfInBounds]
  by_cases he : off + k = off + j
  · refine ⟨x, hx, ?_⟩
    rw [if_pos he, if_pos (by rw [← he] at hc; exact (Array.getElem?_eq_some_iff.1 (by rw [he]; rw [he] at hc; exact hc)).1)]
  · exact ⟨y, hy, by rw [if_neg he]; exact hc⟩
theorem sep_get {ps : List (Cmd × Value)} (h : ps.Pairwise fun a b => a.2.ownBlock ≠ b.2.ownBlock) (i j : Nat) (hij : i < j) (hj : j < ps.length) : (ps.getD i ((0, []), .nilIface)).2.ownBlock ≠ (ps.getD j ((0, []), .nilIface)).2.ownBlock := by
  have := List.pairwise_iff_getElem.1 h i j (by omega) hj hij
  simpa [List.getD_eq_getElem?_getD, hj, show i < ps.length by omega] using this

set_option maxHeartbeats 8000000 in
theorem CommandReads_walk (w : World) (hg : Env w) (l : List UInt8) (a : Option Addr) (cap : Nat) (rd : Rd w (.slice a l.length cap) (bytesV l)) :
    Calls Tryd.prog 8 #[.slice a l.length cap] w fun e w' => e = .returned (.bool true) ∧ Chg [] w w' := by
  have HG := Lib.hid hg
  have HR := Lib.hid rd
  clear hg rd
  by_cases hl : 20000 < l.length
  · have k1 : decide ((20000 : Int) < (l.length : Int)) = true := by simp; omega
    clear hl
    go_enter Tryd.func8, Tryd.ntmps8
    go_wp2_with fail
    refine (known_cmd _ (HG.out.frame ((Chg.refl [] w)) (by simp))).mono ?_
    rintro e wk ⟨rfl, hch⟩
    have HK := Lib.hid (((Chg.refl [] w)).then hch)
    clear hch
    go_wp2
    go_ret
    exact ⟨rfl, HK.out⟩
  · have k1 : decide ((20000 : Int) < (l.length : Int)) = false := by simp; omega
    have hlen : l.length ≤ 70368744177664 := by omega
    clear hl
    go_enter Tryd.func8, Tryd.ntmps8
    go_wp2_with (at_builtin; refine app_buf rfl _ _ rfl w.heap.size (.slice none 0 0) [] rfl (Buf.nil _ _) _ rfl l HR.out (by simp; omega) (Nat.le_refl _) ?_; intro va wa hoa hga haa; refine Hid.out ?_)
    refine Lib.hid ?_
    have HB : Hid (Buf wa w.heap.size va l) := Lib.hid (hoa)
    have C0 : Hid (Chg [] w wa) := Lib.hid ((Chg.refl [] w).trans (Chg.of_grown hga) (fun i hm _ => by simp [Value.ownBlock] at hm))
    clear hoa hga haa
    obtain ⟨a1, cap1, rfl⟩ := HB.out.form
    obtain ⟨S, hS⟩ : ∃ x, x = rN l (hdSub l) := ⟨_, rfl⟩
    obtain ⟨N12, h12⟩ : ∃ x, x = rN l (nL l 12) := ⟨_, rfl⟩
    obtain ⟨N24, h24⟩ : ∃ x, x = rN l (nL l 24) := ⟨_, rfl⟩
    obtain ⟨NZ, hNZ⟩ : ∃ x, x = rN l (32 + nL l 20) := ⟨_, rfl⟩
    obtain ⟨E, hE⟩ : ∃ x, x = readE l := ⟨_, rfl⟩
    have hNZl : NZ < 4294967328 := by
      have := nL_lt l 20
      rw [hNZ]; unfold rN; split <;> omega
    have K1 : Hid (∀ w0 : World, Env w0 → Rd w0 (.slice a1 l.length cap1) (bytesV l) → Calls Tryd.prog 29 #[.slice a1 l.length cap1] w0 fun e w' => ∃ v ps base, e = .returned (.tuple #[.agg #[.int .i64 (S : Nat), .int .i64 (N12 : Nat), .int .u32 (N24 : Nat)], v, .int .i64 E]) ∧ OutC w' base v ps ∧ ps.map Prod.fst = readCs l ∧ w0.heap.size ≤ base ∧ Chg [] w0 w') := Lib.hid (fun w0 h1 h2 => by rw [hS, h12, h24, hE]; exact Read_any l a1 cap1 w0 h1 h2 hlen)
    have K2 : Hid (∀ w0 : World, Rd w0 (.slice a l.length cap) (bytesV l) → Calls Tryd.prog 30 #[.slice a l.length cap] w0 fun e w' => ∃ v ps base, e = .returned (.tuple #[.agg #[.int .i64 (S : Nat), .int .i64 (N12 : Nat), .int .u32 (N24 : Nat)], v, .int .i64 (NZ : Nat), .int .i64 E]) ∧ w'.ownsRow base 26 2 v ps.length (cmdV ps) ∧ (∀ p ∈ ps, ∃ a c, p.2 = .slice a p.1.2.length c ∧ Rd w' p.2 (bytesV p.1.2)) ∧ ps.map Prod.fst = readCs l ∧ Chg [] w0 w') := Lib.hid (fun w0 h2 => by rw [hS, h12, h24, hE, hNZ]; exact RRead_any l a cap w0 h2 hlen)
    have K3 : Hid (∀ w0 : World, Env w0 → Rd w0 (.slice a1 l.length cap1) (bytesV l) → Calls Tryd.prog 31 #[.slice a1 l.length cap1] w0 fun e w' => e = .returned (.tuple #[.int .u64 (NZ : Nat), .int .i64 E]) ∧ Chg [] w0 w') := Lib.hid (fun w0 h1 h2 => by rw [hNZ, hE]; exact Size_any l a1 cap1 w0 h1 h2 hlen)
    have hwz : IntKind.u64.wrap (NZ : Int) = (NZ : Int) := by rw [IntKind.wrap_u64]; omega
    clear hS h12 h24 hNZ hE hNZl
    go_wp2_with fail
    refine (K1.out wa (HG.out.frame C0.out (by simp)) HB.out.rd).mono ?_
    rintro e w1 ⟨v1, ps, base, rfl, ho, hm, hbs, hch⟩
    obtain ⟨aO, nO, cO, rfl, hnO, _⟩ := id ho.rd
    rw [List.length_map] at hnO
    subst hnO
    have D1 := Lib.hid (hch)
    have HO := Lib.hid ho
    have HM := Lib.hid hm
    have HBS := Lib.hid hbs
    clear ho hm hbs
    clear hch
    go_wp2_with fail
    obtain ⟨w2, hw2⟩ : ∃ x, x = w1.alloc (.cells #[.int .i64 S, .int .i64 N12, .int .u32 N24] 34) := ⟨_, rfl⟩
    obtain ⟨r4, hr4⟩ : ∃ x, x = w1.heap.size := ⟨_, rfl⟩
    have bx := heap_alloc_eq w1 (.cells #[.int .i64 S, .int .i64 N12, .int .u32 N24] 34)
    rw [← hw2, ← hr4] at bx
    have E2 : Hid (Chg [] w1 w2) := Lib.hid (by rw [hw2]; exact (Chg.refl _ _).alloc _)
    rw [← hw2, ← hr4]
    clear hw2 hr4
    have D2 := Lib.hid (D1.out.then E2.out)
    refine (K2.out w2 (HR.out.frame (C0.out.then D2.out) (fun _ _ hm => by cases hm))).mono ?_
    rintro e w3 ⟨v3, qs, base2, rfl, hown2, heach2, hm2, hch⟩
    have RD2 : Hid (CmdRd w3 v3 (readCs l)) := Lib.hid (by rw [← hm2]; exact rd_of_own hown2 heach2)
    obtain ⟨aQ, nQ, cQ, rfl⟩ := own_form hown2
    clear hown2 heach2 hm2
    have E3 := Lib.hid (hch)
    have D3 := Lib.hid (D2.out.then hch)
    replace bx := hch.heap bx (by simp)
    clear hch
    go_wp2_with fail
    obtain ⟨w4, hw4⟩ : ∃ x, x = w3.alloc (.cells #[.int .i64 S, .int .i64 N12, .int .u32 N24] 34) := ⟨_, rfl⟩
    obtain ⟨r7, hr7⟩ : ∃ x, x = w3.heap.size := ⟨_, rfl⟩
    have by' := heap_alloc_eq w3 (.cells #[.int .i64 S, .int .i64 N12, .int .u32 N24] 34)
    rw [← hw4, ← hr7] at by'
    have E4 : Hid (Chg [] w3 w4) := Lib.hid (by rw [hw4]; exact (Chg.refl _ _).alloc _)
    rw [← hw4, ← hr7]
    clear hw4 hr7
    replace bx := E4.out.heap bx (by simp)
    have D4 := Lib.hid (D3.out.then E4.out)
    refine (K3.out w4 (HG.out.frame (C0.out.then D4.out) (by simp)) (HB.out.pure D4.out).rd).mono ?_
    rintro e w5 ⟨rfl, hch⟩
    have E5 := Lib.hid (hch)
    have D5 := Lib.hid (D4.out.then hch)
    replace bx := hch.heap bx (by simp)
    replace by' := hch.heap by' (by simp)
    clear hch
    have x0 := cell_of_heap bx 0
    have x1 := cell_of_heap bx 1
    have x2 := cell_of_heap bx 2
    have y0 := cell_of_heap by' 0
    have y1 := cell_of_heap by' 1
    have y2 := cell_of_heap by' 2
    simp at x0 x1 x2 y0 y1 y2
    have t1 : (convert 24 9 (.slice a1 l.length cap1)).run Tryd.prog w5 = .ok (.string ⟨l.toArray⟩) w5 := run_str (HB.out.pure D5.out).rd
    have t2 : (convert 24 9 (.slice a l.length cap)).run Tryd.prog w5 = .ok (.string ⟨l.toArray⟩) w5 := run_str (HR.out.frame (C0.out.then D5.out) (fun _ _ hm => by cases hm))
    clear bx by'
    have HO5 : Hid (OutC w5 base (.slice aO ps.length cO) ps) := Lib.hid (HO.out.frame (E2.out.then (E3.out.then (E4.out.then E5.out))) (fun _ hm => by cases hm))
    have RD1 : Hid (CmdRd w5 (.slice aO ps.length cO) (readCs l)) := Lib.hid (by have := HO5.out.rd; rw [HM.out] at this; exact this)
    have RD5 : Hid (CmdRd w5 (.slice aQ nQ cQ) (readCs l)) := Lib.hid (RD2.out.frame (E4.out.then E5.out))
    have hrl := readCs_len l
    go_wp2_with fail
    refine (cmds_same (readCs l) _ _ w5 RD1.out RD5.out (by omega)).mono ?_
    rintro e w6 ⟨rfl, hch⟩
    have HO6 := Lib.hid (HO5.out.frame hch (fun _ hm => by cases hm))
    have D6 := Lib.hid (D5.out.then hch)
    have hmp : ps.length ≤ 256 := by have := congrArg List.length HM.out; rw [List.length_map] at this; omega
    clear hrl
    clear hch t1 t2 RD1 RD5 HO5 HO RD2 K1 K2 K3
    go_wp2_with fail
    clear x0 x1 x2 y0 y1 y2
    have HP : Hid (∀ j, j < ps.length → mayB (ps.getD j ((0, []), .nilIface)).1.1 (ps.getD j ((0, []), .nilIface)).1.2 = true ∧ (ps.getD j ((0, []), .nilIface)).1.2.length ≤ l.length) := by
      refine Lib.hid ?_
      intro j hj
      refine readCs_may l _ ?_
      rw [← HM.out, List.getD_eq_getElem?_getD, List.getElem?_eq_getElem hj]
      exact List.mem_map_of_mem (List.getElem_mem hj)
    have HSEP : Hid (∀ i j, i < j → j < ps.length → (ps.getD i ((0, []), .nilIface)).2.ownBlock ≠ (ps.getD j ((0, []), .nilIface)).2.ownBlock) := Lib.hid (sep_get HO6.out.sep)
    clear HM hwz
    go_loopw [13] (fun s13 wr => ∃ i : Nat, i ≤ ps.length ∧ s13 = .int .i64 (i : Int) ∧ wr.ownsRow base 26 2 (.slice aO ps.length cO) ps.length (cmdV ps) ∧ (∀ j, i ≤ j → j < ps.length → Buf wr base (ps.getD j ((0, []), .nilIface)).2 (ps.getD j ((0, []), .nilIface)).1.2) ∧ Chg [] wa wr) (fun s13 _ => ps.length - (intOf s13).toNat)
    case atStart =>
      refine ⟨0, Nat.zero_le _, rfl, HO6.out.own, fun j _ hj => HO6.out.each _ ?_, D6.out⟩
      rw [List.getD_eq_getElem?_getD, List.getElem?_eq_getElem hj]
      exact List.getElem_mem hj
    case round =>
      obtain ⟨i, hi, rfl, hown, heach, hch⟩ := hrel
      by_cases hlt : i < ps.length
      · obtain ⟨hmay, hll⟩ := HP.out i hlt
        have hbuf := heach i (Nat.le_refl _) hlt
        have h8 := ((mayB_eq _ _).1 hmay).1
        obtain ⟨gO, off, capO, hv, hgO, howb, hcells⟩ := row_cells hown (by omega)
        obtain ⟨gp, op, capp, hpv, hgp, hpb, hoct⟩ := Octs.of hbuf (by omega)
        obtain ⟨y0, y1⟩ := hcells i hlt
        have hoo : gO ≠ gp := by
          intro he
          have := own_ne hbuf hown gp hpb
          rw [howb, he] at this
          simp at this
        have hrd := hbuf.rd
        rw [hpv] at y1 hrd
        injection hv with hv1 hv2 hv3
        subst hv1 hv3
        clear hv2
        have HSEPI : Hid (∀ j, i + 1 ≤ j → j < ps.length → ∀ b, (ps.getD j ((0, []), .nilIface)).2.ownBlock = some b → b ∉ [gp]) := by
          refine Lib.hid ?_
          intro j h1 h2 b hb hm
          have := HSEP.out i j (by omega) h2
          rw [List.mem_singleton] at hm
          subst hm
          exact this (by rw [hpb, hb])
        have HOB : Hid (∀ b, (Value.slice (some ⟨gO, off, none⟩) ps.length cO).ownBlock = some b → b ∉ [gp]) := by
          refine Lib.hid ?_
          intro b hb hm
          rw [List.mem_singleton] at hm
          subst hm
          exact hoo (by simpa [Value.ownBlock] using hb)
        have HGP : Hid (wa.heap.size ≤ gp) := Lib.hid (Nat.le_trans HBS.out hgp)
        clear hcells hbuf hpb hgO howb hgp hpv
        obtain ⟨cmd, hcmd⟩ : ∃ x, x = (ps.getD i ((0, []), .nilIface)).1.1 := ⟨_, rfl⟩
        obtain ⟨L, hL⟩ : ∃ x, x = (ps.getD i ((0, []), .nilIface)).1.2 := ⟨_, rfl⟩
        rw [← hcmd] at hmay y0
        rw [← hL] at hmay hll h8 y1 hrd hoct
        clear hcmd hL
        have Hown := Lib.hid hown
        have Heach := Lib.hid heach
        have Hch := Lib.hid hch
        have Hoct := Lib.hid hoct
        have Hrd := Lib.hid hrd
        have HOO := Lib.hid hoo
        clear hown heach hch hoct hrd hoo
        have HMAY : Hid (∀ W, Chg [] wr W → Calls Tryd.prog 33 #[.agg #[.int .u32 cmd, .slice (some ⟨gp, op, none⟩) L.length capp]] W fun e w' => e = .returned (.bool true) ∧ Chg [] W w') := by
          refine Lib.hid ?_
          intro W hW
          have := May_any cmd L (some ⟨gp, op, none⟩) capp W (Hrd.out.frame hW (fun _ _ hm => by cases hm)) (by omega) (HG.out.frame ((C0.out.then Hch.out).then hW) (by simp))
          rw [hmay] at this
          exact this
        have HRMAY : Hid (∀ W, Chg [] wr W → Calls Tryd.prog 34 #[.agg #[.int .u32 cmd, .slice (some ⟨gp, op, none⟩) L.length capp]] W fun e w' => e = .returned (.bool true) ∧ Chg [] W w') := by
          refine Lib.hid ?_
          intro W hW
          have := RMay4_any cmd L (some ⟨gp, op, none⟩) capp W (Hrd.out.frame hW (fun _ _ hm => by cases hm)) (by omega)
          rw [hmay] at this
          exact this
        clear hmay
        go_wp2_with fail
        refine (HMAY.out wr (Chg.refl _ _)).mono ?_
        rintro e w7 ⟨rfl, hch⟩
        replace y0 := hch.cell y0 (by simp)
        replace y1 := hch.cell y1 (by simp)
        have E7 := Lib.hid (hch)
        clear hch
        go_wp2_with fail
        refine (HRMAY.out w7 E7.out).mono ?_
        rintro e w8 ⟨rfl, hch⟩
        replace y1 := hch.cell y1 (by simp)
        have E8 := Lib.hid (E7.out.then hch)
        clear hch y0 HMAY HRMAY
        go_wp2_with fail
        obtain ⟨wo, rfl⟩ : ∃ x, x = wr := ⟨_, rfl⟩
        have HOCT8 := Lib.hid (Hoct.out.frame E8.out (by simp))
        go_loopw [14] (fun s14 wq => ∃ k : Nat, k ≤ L.length ∧ s14 = .int .i64 (k : Int) ∧ Octs wq gp op L.length ∧ Chg [gp] w8 wq) (fun s14 _ => L.length - (intOf s14).toNat)
        case atStart => exact ⟨0, Nat.zero_le _, rfl, HOCT8.out, Chg.refl _ _⟩
        case round =>
          obtain ⟨k, hk, rfl, hoc, hcq⟩ := hrel
          obtain ⟨wq, rfl⟩ : ∃ x, x = wr := ⟨_, rfl⟩
          have z1 := hcq.cell y1 (by have := HOO.out; simpa using this)
          by_cases hkl : k < L.length
          · obtain ⟨cur, hc1, hc2⟩ := id hoc
            obtain ⟨x, hx, hcx⟩ := hc2 k hkl
            have z2 := cell_of_heap hc1 (op + k)
            rw [hcx] at z2
            have f2 := frozen_of_heap hc1 (op + k)
            have hw8 : IntKind.u8.wrap ((x : Int) + 1) = (((x + 1) % 256 : Nat) : Int) := by rw [IntKind.wrap_u8]; omega
            clear hc1 hc2 hcx cur
            have Hoc := Lib.hid hoc
            have Hcq := Lib.hid hcq
            clear hoc hcq
            go_upto_region 17 with fail
            refine wp_region_still_tail 16 (by kernel_rfl) (by kernel_rfl) ?_
            simp only [List.take_succ_cons, List.take_zero, List.drop_succ_cons, List.drop_zero]
            change wpStill _ _ wq.drew _ _ _
            repeat still_step
            refine wpStill_nil ?_
            change wpList _ _ _ _ _ wq.drew
            go_wp2
            go_roundw
            case rel => exact ⟨k + 1, hkl, by go_num, (by have := (Hoc.out.frame ((Chg.refl [] _).drew) (by simp)).set k ((x + 1) % 256) (Nat.mod_lt _ (by decide)); push_cast at this ⊢; exact this), ((Hcq.out.drew).setCell _ _ (.inl (by simp)))⟩
            case measure => simp [intOf]; omega
          · obtain rfl : k = L.length := by omega
            have Hoc := Lib.hid hoc
            have Hcq := Lib.hid hcq
            clear hoc hcq
            go_wp2
            go_roundw
            case rel => exact ⟨i + 1, hlt, by go_num, owned_frame (owned_frame Hown.out E8.out (fun _ _ hm => by cases hm)) Hcq.out HOB.out, fun j h1 h2 => ((Heach.out j (by omega) h2).frame E8.out (fun _ _ hm => by cases hm)).frame Hcq.out (HSEPI.out j h1 h2), (Hch.out.then E8.out).trans Hcq.out (fun b hb hw => by rw [List.mem_singleton] at hb; have := HGP.out; omega)⟩
            case measure => simp [intOf]; omega
      · obtain rfl : i = ps.length := by omega
        have t1 : (convert 24 9 (.slice a1 l.length cap1)).run Tryd.prog wr = .ok (.string ⟨l.toArray⟩) wr := run_str (HB.out.pure hch).rd
        have t2 : (convert 24 9 (.slice a l.length cap)).run Tryd.prog wr = .ok (.string ⟨l.toArray⟩) wr := run_str (HR.out.frame (C0.out.then hch) (fun _ _ hm => by cases hm))
        have Hown := Lib.hid hown
        have Heach := Lib.hid heach
        have Hch := Lib.hid hch
        clear hown heach hch
        go_wp2_with fail
        refine (known_cmd _ (HG.out.frame ((C0.out.then Hch.out)) (by simp))).mono ?_
        rintro e wk ⟨rfl, hch⟩
        have HK := Lib.hid (((C0.out.then Hch.out)).then hch)
        clear hch
        go_wp2
        go_ret
        exact ⟨rfl, HK.out⟩
end Go.Proofs.YtchkombikjcokaaDoor
