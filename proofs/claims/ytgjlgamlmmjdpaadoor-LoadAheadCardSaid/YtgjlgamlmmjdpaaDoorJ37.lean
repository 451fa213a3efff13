/- Lemmas, laid together: part 37 of 38. Conditions: none but each lemma's own. -/
import Derived.Test.YtgjlgamlmmjdpaaDoorJ33
import Derived.Test.YtgjlgamlmmjdpaaDoorJ36
import Derived.Test.YtgjlgamlmmjdpaaDoorJ25
/- Plain: segments and dependencies stand in the order of their commands; the document's commands as records. -/
namespace Go.Proofs.YtgjlgamlmmjdpaaDoor
open Go.RowKit
set_option maxRecDepth 100000

theorem cmr_rd2 {W : World} {base : Nat} {v : Value} {ps : List (Cmd × Value)} (own : W.ownsRow base 52 2 v ps.length (cmdV ps)) (each : ∀ p ∈ ps, ∃ a c, p.2 = .slice a p.1.2.length c ∧ Rd W p.2 (bytesV p.1.2)) : ∃ cs : List Cmr, cs.length = ps.length ∧ cmrL.Buf 52 W base v cs ∧ ∀ k, k < ps.length → byteL.Rd W (.slice (cs.getD k .zero).bytes.a (cs.getD k .zero).bytes.n (cs.getD k .zero).bytes.cap) ((ps.map fun p => p.1.2).getD k []) := by
  have hsl : ∀ p ∈ ps, p.2 = .slice (slOf p.2).a (slOf p.2).n (slOf p.2).cap := by
    intro p hp
    obtain ⟨a, c, e, _⟩ := each p hp
    rw [e]
    rfl
  have hv : ∀ qs : List (Cmd × Value), (∀ p ∈ qs, p.2 = .slice (slOf p.2).a (slOf p.2).n (slOf p.2).cap) → cmdV qs = cmrL.vals (qs.map fun p => (⟨(p.1.1 : Nat), slOf p.2⟩ : Cmr)) := by
    intro qs
    induction qs with
    | nil => intro _; rfl
    | cons q r ih =>
      intro hq
      have h1 := ih (fun p hp => hq p (List.mem_cons_of_mem _ hp))
      have h2 := hq q (List.mem_cons_self ..)
      rw [List.map_cons, Lay.vals_cons, ← h1]
      show [.int .u32 (q.1.1 : Nat), q.2] ++ cmdV r = [.int .u32 (q.1.1 : Nat), .slice (slOf q.2).a (slOf q.2).n (slOf q.2).cap] ++ cmdV r
      rw [← h2]
  refine ⟨ps.map fun p => (⟨(p.1.1 : Nat), slOf p.2⟩ : Cmr), by simp, ?_, fun k hk => ?_⟩
  · rw [hv ps hsl] at own
    unfold Lay.Buf
    rw [List.length_map]
    exact own
  · have hm := List.getElem_mem hk
    obtain ⟨_, _, _, h1⟩ := each _ hm
    have h2 := hsl _ hm
    have e1 : (ps.map fun p => (⟨(p.1.1 : Nat), slOf p.2⟩ : Cmr)).getD k .zero = ⟨(ps[k].1.1 : Nat), slOf ps[k].2⟩ := by simp [List.getD_eq_getElem?_getD, hk]
    have e2 : (ps.map fun p => p.1.2).getD k [] = ps[k].1.2 := by simp [List.getD_eq_getElem?_getD, hk]
    rw [e1, e2]
    have h3 := Rd_to_byte h1
    rw [h2] at h3
    exact h3
theorem trQ_keep (p : TP) (x : Spn) : (trQ p x).segs = p.segs ∧ (trQ p x).deps = p.deps := by
  unfold trQ
  split <;> exact ⟨rfl, rfl⟩
theorem depK_least {c : Int} (h : ¬ depK c = 0) : ¬ leastF c = 0 ∧ ¬ c = 25 := by
  unfold depK at h
  by_cases h1 : c = 12
  · subst h1; decide
  rw [if_neg h1] at h
  by_cases h2 : c = 2147483672
  · subst h2; decide
  rw [if_neg h2] at h
  by_cases h3 : c = 2147483679
  · subst h3; decide
  rw [if_neg h3] at h
  by_cases h4 : c = 2147483683
  · subst h4; decide
  rw [if_neg h4] at h
  exact absurd rfl h
theorem tS_segs (p : TP) (l : List UInt8) : (tS p l).segs = if n4 l 0 = 25 then p.segs ++ [segP l] else p.segs := by
  unfold tS
  by_cases hk : leastF (n4 l 0) = 0
  · rw [if_pos hk, if_neg]
    intro e
    rw [e] at hk
    exact absurd hk (by decide)
  rw [if_neg hk]
  by_cases h25 : n4 l 0 = 25
  · rw [if_pos h25, if_pos h25]
  rw [if_neg h25, if_neg h25]
  split
  · rfl
  split
  · rfl
  split
  · exact (trQ_keep _ _).1
  split
  · rfl
  split
  · rfl
  split
  · rfl
  · exact (trQ_keep _ _).1
theorem tS_deps (p : TP) (l : List UInt8) : (tS p l).deps = if ¬ depK (n4 l 0) = 0 then p.deps ++ [⟨nameV l, depK (n4 l 0)⟩] else p.deps := by
  by_cases hd : depK (n4 l 0) = 0
  · rw [show (if ¬ depK (n4 l 0) = 0 then p.deps ++ [⟨nameV l, depK (n4 l 0)⟩] else p.deps) = p.deps from if_neg (by simpa using hd)]
    unfold tS
    split
    · rfl
    split
    · rfl
    split
    · rfl
    split
    · exact (trQ_keep _ _).2
    split
    · rfl
    split
    · rfl
    split
    · rfl
    · exact (trQ_keep _ _).2
  · have h1 := depK_least hd
    rw [if_pos hd]
    unfold tS
    rw [if_neg h1.1, if_neg (by omega), if_pos hd]
theorem tellS_pre : ∀ (ls : List (List UInt8)) (p : TP), (∃ r, (tellS p ls).segs = p.segs ++ r) ∧ ∃ r, (tellS p ls).deps = p.deps ++ r
  | [], p => ⟨⟨[], by simp [tellS]⟩, ⟨[], by simp [tellS]⟩⟩
  | l :: r, p => by
    obtain ⟨⟨r1, h1⟩, r2, h2⟩ := tellS_pre r (tS p l)
    rw [show tellS p (l :: r) = tellS (tS p l) r from rfl, h1, h2, tS_segs, tS_deps]
    refine ⟨?_, ?_⟩
    · split
      · exact ⟨segP l :: r1, by simp⟩
      · exact ⟨r1, rfl⟩
    · split
      · exact ⟨⟨nameV l, depK (n4 l 0)⟩ :: r2, by simp⟩
      · exact ⟨r2, rfl⟩
/-- What a round knows. -/
theorem tell_round {p : TP} {l : List UInt8} {r : List (List UInt8)} {P : TP} (he : tellE p (l :: r) = 0) (hs : tellS p (l :: r) = P) :
    opE l = 0 ∧ tellE (tS p l) r = 0 ∧ tellS (tS p l) r = P ∧ (n4 l 0 = 25 → segE l = 0 ∧ p.segs.length < P.segs.length ∧ P.segs.getD p.segs.length .zero = segP l) ∧ (¬ depK (n4 l 0) = 0 → nameE l = 0 ∧ p.deps.length < P.deps.length ∧ P.deps.getD p.deps.length .zero = ⟨nameV l, depK (n4 l 0)⟩) := by
  have he0 : tE p l = 0 := by
    by_cases h : tE p l = 0
    · exact h
    · rw [show tellE p (l :: r) = if tE p l = 0 then tellE (tS p l) r else tE p l from rfl, if_neg h] at he
      exact absurd he h
  have he1 : tellE (tS p l) r = 0 := by
    rw [show tellE p (l :: r) = if tE p l = 0 then tellE (tS p l) r else tE p l from rfl, if_pos he0] at he
    exact he
  have hs1 : tellS (tS p l) r = P := hs
  obtain ⟨⟨r1, h1⟩, r2, h2⟩ := tellS_pre r (tS p l)
  rw [hs1] at h1 h2
  have ho : opE l = 0 := by
    by_cases h : opE l = 0
    · exact h
    · unfold tE at he0
      rw [if_pos h] at he0
      exact absurd he0 (by decide)
  refine ⟨ho, he1, hs1, fun h25 => ?_, fun hd => ?_⟩
  · unfold tE at he0
    rw [if_neg (by simp [ho]), if_neg (by rw [h25]; decide), if_pos h25] at he0
    unfold sgtE at he0
    have hsg : segE l = 0 := by
      by_cases h : segE l = 0
      · exact h
      · rw [if_neg h] at he0; exact absurd he0 h
    rw [tS_segs, if_pos h25] at h1
    refine ⟨hsg, by rw [h1]; simp, ?_⟩
    rw [h1, List.append_assoc]
    simp [List.getD_eq_getElem?_getD]
  · have hdl := depK_least hd
    unfold tE at he0
    rw [if_neg (by simp [ho]), if_neg hdl.1, if_neg (by omega), if_pos hd] at he0
    unfold depE at he0
    have hn : nameE l = 0 := by
      by_cases h : nameE l = 0
      · exact h
      · rw [if_neg h] at he0; exact absurd he0 h
    rw [tS_deps, if_pos hd] at h2
    refine ⟨hn, by rw [h2]; simp, ?_⟩
    rw [h2, List.append_assoc]
    simp [List.getD_eq_getElem?_getD]
theorem imgE_0 {l : List UInt8} (h : imgE l = 0) : readE l = 0 ∧ tellE (tp0 l) (cmdLs l) = 0 := by
  unfold imgE at h
  by_cases hr : readE l = 0
  · rw [if_pos hr] at h
    exact ⟨hr, h⟩
  · rw [if_neg hr] at h
    exact absurd h hr
end Go.Proofs.YtgjlgamlmmjdpaaDoor
/- Plain: an image hangs on its header and commands alone. -/
namespace Go.Proofs.YtgjlgamlmmjdpaaDoor
open Go.RowKit
set_option maxRecDepth 100000

/-- Two rows of bytes that agree in the first n. -/
def Agree (n : Nat) (l r : List UInt8) : Prop := n ≤ l.length ∧ n ≤ r.length ∧ l.take n = r.take n
theorem Agree.part {n : Nat} {l r : List UInt8} (h : Agree n l r) (p m : Nat) (hp : p + m ≤ n) : (l.drop p).take m = (r.drop p).take m := by
  have e : ∀ x : List UInt8, (x.drop p).take m = ((x.take n).drop p).take m := fun x => by
    rw [List.drop_take, List.take_take, Nat.min_eq_left (by omega)]
  rw [e l, e r, h.2.2]
theorem Agree.nL {n : Nat} {l r : List UInt8} (h : Agree n l r) (p : Nat) (hp : p + 4 ≤ n) : nL l p = nL r p := by
  unfold Go.Proofs.YtgjlgamlmmjdpaaDoor.nL
  rw [h.part p 4 hp]
theorem Agree.head {n : Nat} {l r : List UInt8} (h : Agree n l r) (h32 : 32 ≤ n) (hn : n = 32 + Go.Proofs.YtgjlgamlmmjdpaaDoor.nL l 20) (hE : headE l = 0) : headE r = 0 ∧ hdSub r = hdSub l ∧ Go.Proofs.YtgjlgamlmmjdpaaDoor.nL r 12 = Go.Proofs.YtgjlgamlmmjdpaaDoor.nL l 12 ∧ Go.Proofs.YtgjlgamlmmjdpaaDoor.nL r 16 = Go.Proofs.YtgjlgamlmmjdpaaDoor.nL l 16 ∧ Go.Proofs.YtgjlgamlmmjdpaaDoor.nL r 20 = Go.Proofs.YtgjlgamlmmjdpaaDoor.nL l 20 ∧ Go.Proofs.YtgjlgamlmmjdpaaDoor.nL r 24 = Go.Proofs.YtgjlgamlmmjdpaaDoor.nL l 24 := by
  have e0 := h.nL 0 (by omega)
  have e4 := h.nL 4 (by omega)
  have e8 := h.nL 8 (by omega)
  have e12 := h.nL 12 (by omega)
  have e16 := h.nL 16 (by omega)
  have e20 := h.nL 20 (by omega)
  have e24 := h.nL 24 (by omega)
  have hs : hdSub r = hdSub l := by unfold hdSub; rw [e8]
  refine ⟨?_, hs, e12.symm, e16.symm, e20.symm, e24.symm⟩
  unfold headE at hE ⊢
  rw [hs, ← e0, ← e4, ← e12, ← e16, ← e20]
  have h1 := h.1
  have h2 := h.2.1
  rw [if_neg (by omega)] at hE
  rw [if_neg (by omega)]
  split at hE
  · exact absurd hE (by decide)
  · rename_i q1
    rw [if_neg q1]
    split at hE
    · exact absurd hE (by decide)
    · rename_i q2
      rw [if_neg q2]
      split at hE
      · split at hE <;> exact absurd hE (by decide)
      · rename_i q3
        rw [if_neg q3]
        split at hE
        · exact absurd hE (by decide)
        · rename_i q4
          rw [if_neg q4, if_neg (by omega)]
theorem Agree.st {n z0 : Nat} {l r : List UInt8} (h : Agree n l r) (hn : n = 32 + z0) : ∀ k, allC l z0 k = true → stC r z0 k = stC l z0 k ∧ allC r z0 k = true ∧ cmdsC r z0 k = cmdsC l z0 k
  | 0, _ => ⟨rfl, rfl, rfl⟩
  | k + 1, ha => by
    have ha' := ha
    rw [allC_succ, Bool.and_eq_true] at ha
    obtain ⟨h1, h2, h3⟩ := h.st hn k ha.1
    have hs := stC_sum l z0 k ha.1
    have hok := (okC_eq l z0 k).1 ha.2
    have e4 := h.nL ((stC l z0 k).1 + 4) (by omega)
    have e0 := h.nL (stC l z0 k).1 (by omega)
    have hsz : szC r z0 k = szC l z0 k := by unfold szC; rw [h1, e4]
    have hsl : (stC l z0 k).1 + szC l z0 k ≤ n := by have := hok.2.2.2; omega
    have hc : cmdC r z0 k = cmdC l z0 k := by
      unfold cmdC
      rw [hsz, h1, ← e0, h.part _ _ hsl]
    refine ⟨?_, ?_, ?_⟩
    · show ((stC r z0 k).1 + _, (stC r z0 k).2 - _) = ((stC l z0 k).1 + _, (stC l z0 k).2 - _)
      rw [h1, ← e4]
    · rw [allC_succ, Bool.and_eq_true]
      refine ⟨h2, (okC_eq r z0 k).2 ?_⟩
      rw [hsz, h1]
      exact hok
    · rw [cmdsC_succ, cmdsC_succ, h3, hc]
theorem readE_0 {l : List UInt8} (h : readE l = 0) : headE l = 0 ∧ allC l (nL l 20) (nL l 16) = true := by
  unfold readE at h
  by_cases h1 : headE l = 0
  · rw [if_pos h1] at h
    by_cases h2 : allC l (nL l 20) (nL l 16) = true
    · exact ⟨h1, h2⟩
    · rw [if_neg h2] at h; exact absurd h (by decide)
  · rw [if_neg h1] at h; exact absurd h h1
theorem headE_len {l : List UInt8} (h : headE l = 0) : 32 + nL l 20 ≤ l.length := by
  unfold headE at h
  by_cases h1 : l.length < 32
  · rw [if_pos h1] at h; exact absurd h (by decide)
  rw [if_neg h1] at h
  split at h
  · exact absurd h (by decide)
  split at h
  · exact absurd h (by decide)
  split at h
  · split at h <;> exact absurd h (by decide)
  split at h
  · exact absurd h (by decide)
  split at h
  · exact absurd h (by decide)
  · omega
/-- The image of bytes that agree in the header and the commands is the same. -/
theorem image_ahead (l more : List UInt8) (h : readE l = 0) : imgE (l.take (32 + nL l 20) ++ more) = imgE l ∧ imgP (l.take (32 + nL l 20) ++ more) = imgP l := by
  obtain ⟨h1, h2⟩ := readE_0 h
  have hlen := headE_len h1
  obtain ⟨n, hn⟩ : ∃ n, n = 32 + nL l 20 := ⟨_, rfl⟩
  rw [← hn] at hlen ⊢
  obtain ⟨r, hr⟩ : ∃ r, r = l.take n ++ more := ⟨_, rfl⟩
  rw [← hr]
  have hag : Agree n l r := by
    refine ⟨hlen, by rw [hr, List.length_append, List.length_take]; omega, ?_⟩
    rw [hr, List.take_append_of_le_length (by rw [List.length_take]; omega), List.take_take, Nat.min_self]
  obtain ⟨g1, g2, g3, g4, g5, g6⟩ := hag.head (by omega) hn h1
  obtain ⟨_, s2, s3⟩ := hag.st hn (nL l 16) h2
  have hre : readE r = 0 := by unfold readE; rw [if_pos g1, g4, g5, if_pos s2]
  have hcs : cmdLs r = cmdLs l := by unfold cmdLs readCs; rw [if_pos hre, if_pos h, g4, g5, s3]
  have htp : tp0 r = tp0 l := by unfold tp0; rw [g2, g3, g6]
  constructor
  · unfold imgE; rw [if_pos hre, if_pos h, htp, hcs]
  · unfold imgP; rw [htp, hcs]
end Go.Proofs.YtgjlgamlmmjdpaaDoor
/- clevislaw05: put, known. -/
namespace Go.Proofs.YtgjlgamlmmjdpaaDoor
open Go.RowKit
set_option maxRecDepth 100000

theorem put5_any (v : Value) (l : List UInt8) (n : Nat) (hn : n < 4294967296) (base : Nat) (w : World) (hb : Buf w base v l) (hbase : base ≤ w.heap.size) (hl : l.length ≤ 70368744177664) :
    Calls Tryd.prog 8 #[v, .int .u32 n] w fun e w' => ∃ v', e = .returned v' ∧ Grew w base v l w' v' (le4 n) := by
  have HR : Hid (Rd (w.alloc (.cells #[.int .u8 ((n : Int) % 256), .int .u8 ((n : Int) / 256 % 256), .int .u8 ((n : Int) / 65536 % 256), .int .u8 ((n : Int) / 16777216)] 5)) (.slice (some ⟨w.heap.size, 0, none⟩) 4 4) (bytesV (le4 n))) := by
    refine Lib.hid ?_
    rw [bytesV_le4 n hn]
    exact Rd_new w _ _ 4 rfl (by show 4 ≤ maxLen; unfold maxLen; omega)
  have hlen : (le4 n).length = 4 := rfl
  have H4 := Lib.hid (hlen)
  clear hlen
  have Hb := Lib.hid hb
  have Hbase := Lib.hid hbase
  clear hb hbase
  go_enter Tryd.func8, Tryd.ntmps8
  go_wp2_with (at_builtin; refine app_bytes_at rfl _ _ rfl base v l.length (bytesV l) rfl (Hb.out.pure ((Chg.refl [] w).alloc _)) _ rfl (le4 n) HR.out (by rw [H4.out]; omega) (by have := Hbase.out; simp; omega) ?_; intro va wa hoa hga haa; refine Hid.out ?_)
  refine Lib.hid ?_
  have HG : Hid (Grew w base v l wa va (le4 n)) := Lib.hid (Grew.mk' ((Chg.refl [] w).alloc _) (Buf.app hoa) hga haa)
  clear hoa hga haa
  go_wp2
  go_ret
  exact ⟨_, rfl, HG.out⟩

/-- The bytes of the chapter's name. -/
def nm05 : List UInt8 := [12, 0, 0, 0, 32, 0, 0, 0, 24, 0, 0, 0, 0, 0, 0, 0, 0, 0, 0, 0, 0, 0, 0, 0, 97, 98, 0, 0, 0, 0, 0, 0]
def no05 : List UInt8 := [153, 0, 0, 0, 8, 0, 0, 0]
def sp05 : List UInt8 := [52, 0, 0, 128, 16, 0, 0, 0, 7, 0, 0, 0, 9, 0, 0, 0, 1]
theorem nm05_v : nameE nm05 = 0 ∧ nameV nm05 = ⟨#[97, 98]⟩ := by decide +kernel
theorem no05_v : nameE no05 = 7 := by decide +kernel
theorem sp05_v : opE sp05 = 0 ∧ ((n4 sp05 0 : Nat) : Int) = 2147483700 ∧ spAt sp05 0 = ⟨7, 9⟩ := by decide +kernel
set_option maxHeartbeats 4000000 in
theorem known5_any (w : World) (hg : Env w) : Calls Tryd.prog 4 #[] w fun e w' => e = .returned (.bool true) ∧ Chg [] w w' := by
  obtain ⟨base, hb⟩ : ∃ base, base = w.heap.size := ⟨_, rfl⟩
  have B0 : Hid (Buf w base (.slice none 0 0) []) := Lib.hid (World.ownsRow_nil w base _ 1)
  have C0 : Hid (Chg [] w w) := Lib.hid (Chg.refl _ _)
  have HR8 : Hid (∀ W : World, Rd (W.alloc (.cells #[.int .u8 97, .int .u8 98, .int .u8 0, .int .u8 0, .int .u8 0, .int .u8 0, .int .u8 0, .int .u8 0] 5)) (.slice (some ⟨W.heap.size, 0, none⟩) 8 8) (bytesV [97, 98, 0, 0, 0, 0, 0, 0])) := Lib.hid (fun W => Rd_new W _ _ 8 rfl (by show 8 ≤ maxLen; unfold maxLen; omega))
  have HR1 : Hid (∀ W : World, Rd (W.alloc (.cells #[.int .u8 1] 5)) (.slice (some ⟨W.heap.size, 0, none⟩) 1 1) (bytesV [1])) := Lib.hid (fun W => Rd_new W _ _ 1 rfl (by show 1 ≤ maxLen; unfold maxLen; omega))
  have Hg := Lib.hid hg
  have HB := Lib.hid hb
  clear hg hb
  go_enter Tryd.func4, Tryd.ntmps4
  go_wp2_with fail
  refine (put5_any _ _ 12 (by decide) base _ B0.out (by rw [HB.out]; exact C0.out.size) (by decide)).mono ?_
  rintro e W1 ⟨v1, rfl, hgr⟩
  have C1 := Lib.hid (hgr.pure0 B0.out C0.out (by rw [HB.out]; exact Nat.le_refl _))
  have B1 := Lib.hid (hgr.buf)
  clear hgr
  go_wp2_with fail
  refine (put5_any _ _ 32 (by decide) base _ B1.out (by rw [HB.out]; exact C1.out.size) (by decide)).mono ?_
  rintro e W2 ⟨v2, rfl, hgr⟩
  have C2 := Lib.hid (hgr.pure0 B1.out C1.out (by rw [HB.out]; exact Nat.le_refl _))
  have B2 := Lib.hid (hgr.buf)
  clear hgr
  go_wp2_with fail
  refine (put5_any _ _ 24 (by decide) base _ B2.out (by rw [HB.out]; exact C2.out.size) (by decide)).mono ?_
  rintro e W3 ⟨v3, rfl, hgr⟩
  have C3 := Lib.hid (hgr.pure0 B2.out C2.out (by rw [HB.out]; exact Nat.le_refl _))
  have B3 := Lib.hid (hgr.buf)
  clear hgr
  go_wp2_with fail
  refine (put5_any _ _ 0 (by decide) base _ B3.out (by rw [HB.out]; exact C3.out.size) (by decide)).mono ?_
  rintro e W4 ⟨v4, rfl, hgr⟩
  have C4 := Lib.hid (hgr.pure0 B3.out C3.out (by rw [HB.out]; exact Nat.le_refl _))
  have B4 := Lib.hid (hgr.buf)
  clear hgr
  go_wp2_with fail
  refine (put5_any _ _ 0 (by decide) base _ B4.out (by rw [HB.out]; exact C4.out.size) (by decide)).mono ?_
  rintro e W5 ⟨v5, rfl, hgr⟩
  have C5 := Lib.hid (hgr.pure0 B4.out C4.out (by rw [HB.out]; exact Nat.le_refl _))
  have B5 := Lib.hid (hgr.buf)
  clear hgr
  go_wp2_with fail
  refine (put5_any _ _ 0 (by decide) base _ B5.out (by rw [HB.out]; exact C5.out.size) (by decide)).mono ?_
  rintro e W6 ⟨v6, rfl, hgr⟩
  have C6 := Lib.hid (hgr.pure0 B5.out C5.out (by rw [HB.out]; exact Nat.le_refl _))
  have B6 := Lib.hid (hgr.buf)
  clear hgr
  go_wp2_with (at_builtin; refine app_buf rfl _ _ rfl base v6 _ rfl (B6.out.pure ((Chg.refl [] W6).alloc _)) _ rfl ([97, 98, 0, 0, 0, 0, 0, 0]) (HR8.out W6) (by decide) (by rw [HB.out]; exact Nat.le_trans C6.out.size ((Chg.refl [] W6).alloc _).size) ?_; intro v7 W7 hoa hga haa; replace hoa := Lib.hid hoa; replace hga := Lib.hid hga; clear haa; refine Hid.out ?_)
  refine Lib.hid ?_
  have C7 : Hid (Chg [] w W7) := Lib.hid ((C6.out.alloc _).trans (Lay.chg_grown hga.out) (fun i hm hi => by have := (World.ownsRow.lt B6.out i (by simpa using hm)).1; rw [HB.out] at this; omega))
  have B7 := Lib.hid (hoa.out)
  clear hoa hga
  have N7 : Hid (byteL.Rd W7 v7 nm05) := Lib.hid (Rd_to_byte (Rd.owned B7.out))
  go_wp2_with fail
  refine (Name_any nm05 (by decide) v7 W7 (Hg.out.frame C7.out (by simp)) N7.out).mono ?_
  rintro e W8 ⟨rfl, hch⟩
  rw [nm05_v.1, nm05_v.2]
  have C8 := Lib.hid (C7.out.then hch)
  have B8 : Hid (Buf W8 base (.slice none 0 0) []) := Lib.hid (World.ownsRow_nil W8 base _ 1)
  clear hch B0 B1 B2 B3 B4 B5 B6 B7 N7 C1 C2 C3 C4 C5 C6 C7
  go_wp2_with fail
  refine (put5_any _ _ 153 (by decide) base _ B8.out (by rw [HB.out]; exact C8.out.size) (by decide)).mono ?_
  rintro e W9 ⟨v9, rfl, hgr⟩
  have C9 := Lib.hid (hgr.pure0 B8.out C8.out (by rw [HB.out]; exact Nat.le_refl _))
  have B9 := Lib.hid (hgr.buf)
  clear hgr
  go_wp2_with fail
  refine (put5_any _ _ 8 (by decide) base _ B9.out (by rw [HB.out]; exact C9.out.size) (by decide)).mono ?_
  rintro e WA ⟨vA, rfl, hgr⟩
  have CA := Lib.hid (hgr.pure0 B9.out C9.out (by rw [HB.out]; exact Nat.le_refl _))
  have BA := Lib.hid (hgr.buf)
  clear hgr
  have NA : Hid (byteL.Rd WA vA no05) := Lib.hid (Rd_to_byte (Rd.owned BA.out))
  go_wp2_with fail
  refine (Name_any no05 (by decide) vA WA (Hg.out.frame CA.out (by simp)) NA.out).mono ?_
  rintro e WB ⟨rfl, hch⟩
  rw [no05_v]
  have CB := Lib.hid (CA.out.then hch)
  have BB : Hid (Buf WB base (.slice none 0 0) []) := Lib.hid (World.ownsRow_nil WB base _ 1)
  clear hch B8 B9 BA NA C8 C9 CA
  go_wp2_with fail
  refine (put5_any _ _ 2147483700 (by decide) base _ BB.out (by rw [HB.out]; exact CB.out.size) (by decide)).mono ?_
  rintro e WC ⟨vC, rfl, hgr⟩
  have CC := Lib.hid (hgr.pure0 BB.out CB.out (by rw [HB.out]; exact Nat.le_refl _))
  have BC := Lib.hid (hgr.buf)
  clear hgr
  go_wp2_with fail
  refine (put5_any _ _ 16 (by decide) base _ BC.out (by rw [HB.out]; exact CC.out.size) (by decide)).mono ?_
  rintro e WD ⟨vD, rfl, hgr⟩
  have CD := Lib.hid (hgr.pure0 BC.out CC.out (by rw [HB.out]; exact Nat.le_refl _))
  have BD := Lib.hid (hgr.buf)
  clear hgr
  go_wp2_with fail
  refine (put5_any _ _ 7 (by decide) base _ BD.out (by rw [HB.out]; exact CD.out.size) (by decide)).mono ?_
  rintro e WE ⟨vE, rfl, hgr⟩
  have CE := Lib.hid (hgr.pure0 BD.out CD.out (by rw [HB.out]; exact Nat.le_refl _))
  have BE := Lib.hid (hgr.buf)
  clear hgr
  go_wp2_with fail
  refine (put5_any _ _ 9 (by decide) base _ BE.out (by rw [HB.out]; exact CE.out.size) (by decide)).mono ?_
  rintro e WF ⟨vF, rfl, hgr⟩
  have CF := Lib.hid (hgr.pure0 BE.out CE.out (by rw [HB.out]; exact Nat.le_refl _))
  have BF := Lib.hid (hgr.buf)
  clear hgr
  go_wp2_with (at_builtin; refine app_buf rfl _ _ rfl base vF _ rfl (BF.out.pure ((Chg.refl [] WF).alloc _)) _ rfl ([1]) (HR1.out WF) (by decide) (by rw [HB.out]; exact Nat.le_trans CF.out.size ((Chg.refl [] WF).alloc _).size) ?_; intro vG WG hoa hga haa; replace hoa := Lib.hid hoa; replace hga := Lib.hid hga; clear haa; refine Hid.out ?_)
  refine Lib.hid ?_
  have CG : Hid (Chg [] w WG) := Lib.hid ((CF.out.alloc _).trans (Lay.chg_grown hga.out) (fun i hm hi => by have := (World.ownsRow.lt BF.out i (by simpa using hm)).1; rw [HB.out] at this; omega))
  have BG := Lib.hid (hoa.out)
  clear hoa hga
  have NG : Hid (byteL.Rd WG vG sp05) := Lib.hid (Rd_to_byte (Rd.owned BG.out))
  go_wp2_with fail
  refine (Spans_1 sp05 sp05_v.1 (.inr sp05_v.2.1) (by decide) vG WG (Hg.out.frame CG.out (by simp)) NG.out).mono ?_
  rintro e WH hsp
  obtain ⟨g, cap, rfl, hch, _, hin⟩ := sp_q (by rw [spsN_len]; decide) hsp
  rw [spsN_len]
  have CH := Lib.hid (CG.out.then hch)
  have hx : spnL.In WH g 0 ⟨7, 9⟩ := by
    have h := hin 0 (by rw [spsN_len]; decide)
    rw [show (spsN sp05 1).getD 0 Spn.zero = spAt sp05 0 from rfl, sp05_v.2.2] at h
    exact h
  obtain ⟨x1, x2⟩ := Spn.both hx
  simp only [Nat.zero_add] at x2
  clear hx hin hsp hch BB BC BD BE BF BG NG CC CD CE CF CG CB
  have heq := Spn.eql ⟨7, 9⟩ ⟨7, 9⟩
  rw [decide_eq_true rfl] at heq
  go_wp2_with fail
  refine (Known_yes 25 (by decide) _).mono ?_
  rintro e WI ⟨rfl, hch⟩
  have CI := Lib.hid (CH.out.then hch)
  clear hch
  go_wp2_with fail
  refine (Known_no 153 (by decide) _).mono ?_
  rintro e WJ ⟨rfl, hch⟩
  have CJ := Lib.hid (CI.out.then hch)
  clear hch
  go_wp2
  go_ret
  exact ⟨rfl, CJ.out⟩
end Go.Proofs.YtgjlgamlmmjdpaaDoor
