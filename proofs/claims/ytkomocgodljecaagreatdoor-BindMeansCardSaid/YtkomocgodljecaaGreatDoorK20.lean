/- Lemmas, laid together: part 20 of 41. Conditions: none but each lemma's own. -/
import Derived.Test.YtkomocgodljecaaGreatDoorK19
import Derived.Test.YtkomocgodljecaaGreatDoorK12
/- bind.Decode's state, and what each opcode makes of it. -/
namespace Go.Proofs.YtkomocgodljecaaGreatDoor
open Go.RowKit
set_option maxRecDepth 100000

def bR (bc : Nat) (m : Img) (imm : Int) (f : Fx) (is_ en : Bool) (so : SlV) : Brd := ⟨some ⟨bc, 0, none⟩, m, 1, imm, f, is_, 1, so, en⟩
/-- What Decode is called with. -/
structure BIn (w : World) (m : Img) (ls : List Seg) : Prop where
  hls : SegsB ls
  rd : segL.Rd w m.segs.v ls
  o1 : ∀ k, m.segs.v.ownBlock = some k → k < w.heap.size
/-- The reader at a place of its stream: where it stands, and what it has. -/
structure BSt (w : World) (B : List UInt8) (m : Img) (imm : Int) (p : Nat) (f : Fx) (is_ en : Bool) (fs : List Fx) (bc b : Nat) (W : World) : Prop where
  lo : w.heap.size ≤ bc
  hi : bc < b
  env : Env W
  cur : CurB W bc ⟨B, p, false, false⟩
  chg : Chg [] w W
  box : ∃ so : SlV, brdL.Box W b (bR bc m imm f is_ en so) ∧ FB W (b + 1) so.v fs
theorem BSt.lt {w W : World} {B : List UInt8} {m : Img} {imm : Int} {p : Nat} {f : Fx} {is_ en : Bool} {fs : List Fx} {bc b : Nat} (h : BSt w B m imm p f is_ en fs bc b W) : b < W.heap.size := by
  obtain ⟨so, h1, _⟩ := h.box
  exact h1.lt
theorem BSt.pure {w W W' : World} {B : List UInt8} {m : Img} {imm : Int} {p : Nat} {f : Fx} {is_ en : Bool} {fs : List Fx} {bc b : Nat} (h : BSt w B m imm p f is_ en fs bc b W) (k : Chg [] W W') : BSt w B m imm p f is_ en fs bc b W' := by
  obtain ⟨so, h1, h2⟩ := h.box
  exact ⟨h.lo, h.hi, h.env.frame k (by simp), h.cur.frame k, h.chg.then k, so, h1.frame k, h2.pure k⟩
/-- Behind a write to the reader's own blocks. -/
theorem BSt.next {w W W' : World} {B : List UInt8} {m : Img} {imm : Int} {p : Nat} {f : Fx} {is_ en : Bool} {fs : List Fx} {bc b : Nat} (h : BSt w B m imm p f is_ en fs bc b W) (hw : Env w) {so : SlV} (hf : FB W (b + 1) so.v fs) (hb : brdL.Box W b (bR bc m imm f is_ en so))
    {S : List Nat} (k : Chg S W W') (hS : ∀ i ∈ S, i = b ∨ i = bc ∨ so.v.ownBlock = some i) {imm' : Int} {p' : Nat} {f' : Fx} {is' en' : Bool} {fs' : List Fx} {so' : SlV} (hc' : CurB W' bc ⟨B, p', false, false⟩) (hb' : brdL.Box W' b (bR bc m imm' f' is' en' so')) (hf' : FB W' (b + 1) so'.v fs') :
    BSt w B m imm' p' f' is' en' fs' bc b W' ∧ KeepF W W' := by
  have hlo := h.lo
  have hhi := h.hi
  have hS2 : ∀ i ∈ S, bc ≤ i := fun i hi => by
    rcases hS i hi with e | e | e
    · omega
    · omega
    · have := (hf.lt i e).1; omega
  refine ⟨⟨h.lo, h.hi, h.env.frame k (fun hm => by have := hS2 _ hm; have := hw.pos; omega), hc', h.chg.trans k (fun i hm hi => by have := hS2 _ hm; omega), so', hb', hf'⟩, fun q hq => hq.frameS k (fun hm => ?_)⟩
  rcases hS q hm with e | e | e
  · exact fns_ne_b hb hq e
  · exact fns_ne_c h.cur hq e
  · exact fns_ne_o hf e hq rfl
/-- The opcode's byte is taken, its number kept. -/
theorem BSt.took {w W W' : World} {B : List UInt8} {m : Img} {imm0 : Int} {p : Nat} {f : Fx} {is_ en : Bool} {fs : List Fx} {bc b : Nat} (h : BSt w B m imm0 p f is_ en fs bc b W) (hw : Env w) (k : Chg [bc] W W') {p' : Nat} (hc : CurB W' bc ⟨B, p', false, false⟩) (imm : Int) : BSt w B m imm p' f is_ en fs bc b (W'.setCell ⟨b, 26, none⟩ (.int .u8 imm)) := by
  obtain ⟨so, h1, h2⟩ := h.box
  have hhi := h.hi
  have kk : Chg [bc, b] W (W'.setCell ⟨b, 26, none⟩ (.int .u8 imm)) := (k.mono (fun i hi _ => by simp at hi; simp [hi])).setCell _ _ (.inl (by simp))
  have hb' := h1.frameS k (by simp; omega)
  exact (h.next hw h2 h1 kk (fun i hi => by simp at hi; rcases hi with e | e; exact .inr (.inl e); exact .inl e) (hc.far2 (S := [b]) ((Chg.refl _ _).setCell _ _ (.inl (by simp))) (by simp; omega)) (Brd.set_imm hb' imm) (h2.frame kk (fun i hi hm => by have := (h2.lt i hi).1; simp at hm; omega))).1
section
variable {w W : World} {B : List UInt8} {m : Img} {imm : Int} {p : Nat} {f : Fx} {is_ en : Bool} {fs : List Fx} {bc b : Nat}
theorem BSt.own (h : BSt w B m imm p f is_ en fs bc b W) {so : SlV} (hf : FB W (b + 1) so.v fs) {S : List Nat} {W' : World} (k : Chg S W W') (hS : ∀ i ∈ S, i = b ∨ i = bc) : FB W' (b + 1) so.v fs :=
  hf.frame k (fun i hi hm => by have := (hf.lt i hi).1; have := h.hi; rcases hS i hm with e | e <;> omega)
theorem BSt.ordinal {n : Nat} (h : BSt w B m (n : Int) p f is_ en fs bc b W) (hw : Env w) (hn : n ≤ m.deps.n) (hn2 : n ≤ 1000) (hd2 : m.deps.n ≤ 1000) :
    Calls Tryz.prog 49 #[.pointer (some ⟨b, 0, none⟩)] W fun e w' => e = .returned (.tuple #[]) ∧ BSt w B m (n : Int) p { f with ord := (n : Int) } is_ en fs bc b w' ∧ KeepF W w' := by
  obtain ⟨so, h1, h2⟩ := h.box
  have hhi := h.hi
  refine (ordinal_ok b n _ rfl rfl hn hn2 hd2 W h1).mono ?_
  rintro e w' ⟨rfl, hb, hc⟩
  exact ⟨rfl, h.next hw h2 h1 hc (fun i hi => .inl (by simpa using hi)) (h.cur.far2 hc (by simp; omega)) hb (h.own h2 hc (fun i hi => .inl (by simpa using hi)))⟩
theorem BSt.endS (h : BSt w B m imm p f is_ en fs bc b W) (hw : Env w) :
    Calls Tryz.prog 48 #[.pointer (some ⟨b, 0, none⟩)] W fun e w' => e = .returned (.tuple #[]) ∧ BSt w B m imm p f is_ true fs bc b w' ∧ KeepF W w' := by
  obtain ⟨so, h1, h2⟩ := h.box
  have hhi := h.hi
  refine (end_ok b _ rfl W h1).mono ?_
  rintro e w' ⟨rfl, hb, hc⟩
  exact ⟨rfl, h.next hw h2 h1 hc (fun i hi => .inl (by simpa using hi)) (h.cur.far2 hc (by simp; omega)) hb (h.own h2 hc (fun i hi => .inl (by simpa using hi)))⟩
theorem BSt.symbol (h : BSt w B m 0 p f is_ en fs bc b W) (hw : Env w) {p' : Nat} (sy : ByteArray) (hsy : sy = ⟨#[97]⟩ ∨ sy = ⟨#[95, 97]⟩) (hs : textS ⟨B, p, false, false⟩ 1099511627776 = ⟨B, p', false, false⟩) (hv : (⟨(textL ⟨B, p, false, false⟩ 1099511627776).toArray⟩ : ByteArray) = sy) :
    Calls Tryz.prog 52 #[.pointer (some ⟨b, 0, none⟩)] W fun e w' => e = .returned (.tuple #[]) ∧ BSt w B m 0 p' { f with sym := sy, weak := false } is_ en fs bc b w' ∧ KeepF W w' := by
  obtain ⟨so, h1, h2⟩ := h.box
  have hhi := h.hi
  refine (symbol_ok b bc _ _ _ sy hsy rfl rfl rfl h.hi hs rfl hv W h.cur h1).mono ?_
  rintro e w' ⟨rfl, hb, hcu, hc⟩
  have hS : ∀ i ∈ [b, bc], i = b ∨ i = bc := fun i hi => by simpa using hi
  exact ⟨rfl, h.next hw h2 h1 hc (fun i hi => (hS i hi).imp id .inl) hcu hb (h.own h2 hc hS)⟩
theorem BSt.place {im n p' A : Nat} (h : BSt w B m (im : Int) p f is_ en fs bc b W) (hw : Env w) {ls : List Seg} (hd : BIn w m ls) (hi2 : im < 256)
    (hv : lebV ulebR ⟨B, p, false, false⟩ = n ∧ lebS ulebR ⟨B, p, false, false⟩ = ⟨B, p', false, false⟩) (hA : placeS ls im n = ((A : Int), 0)) :
    Calls Tryz.prog 55 #[.pointer (some ⟨b, 0, none⟩)] W fun e w' => e = .returned (.tuple #[]) ∧ BSt w B m (im : Int) p' { f with at_ := (A : Int) } true en fs bc b w' ∧ KeepF W w' := by
  obtain ⟨so, h1, h2⟩ := h.box
  have hhi := h.hi
  have hlo := h.lo
  refine (place_ok b bc im n _ _ rfl hi2 rfl h.hi (by rw [hv.2]) hv.1 W h.env h.cur h1 ls (hd.rd.frame h.chg) (fun k hk hm => by have := hd.o1 k hk; simp at hm; omega) A hA).mono ?_
  rintro e w' ⟨rfl, hb, hcu, hc⟩
  rw [hv.2] at hcu
  have hS : ∀ i ∈ [b, bc], i = b ∨ i = bc := fun i hi => by simpa using hi
  exact ⟨rfl, h.next hw h2 h1 hc (fun i hi => (hS i hi).imp id .inl) hcu hb (h.own h2 hc hS)⟩
/-- binds, where they may be. -/
theorem BSt.binds {A n : Nat} (h : BSt w B m imm p f true en fs bc b W) (hw : Env w) {ls : List Seg} (hd : BIn w m ls) (hfA : f.at_ = A) (hsy : ¬ f.sym.toList = []) (hA2 : A + 8 * n < 18446744073709551616) (hwr : ∀ j, j < n → writS ls ((A + 8 * j : Nat) : Int) 8 = true) (hfs : fs.length + n ≤ 20000)
    {so : SlV} (h1 : brdL.Box W b (bR bc m imm f true en so)) (h2 : FB W (b + 1) so.v fs) {W1 : World} (k1 : Chg [bc] W W1) {p' : Nat} (hcu : CurB W1 bc ⟨B, p', false, false⟩) :
    Calls Tryz.prog 75 #[.pointer (some ⟨b, 0, none⟩), .int .u64 n, .int .u64 0] W1 fun e w' => e = .returned (.tuple #[]) ∧ (BSt w B m imm p' { f with at_ := ((A + 8 * n : Nat) : Int) } true en (fs ++ bndW f A n) bc b w' ∧ KeepF W w') := by
  have hhi := h.hi
  have hlo := h.lo
  have hb1 := h1.frameS k1 (by simp; omega)
  have hf1 := h.own h2 k1 (fun i hi => .inr (by simpa using hi))
  have hc1 : Chg [] w W1 := h.chg.trans k1 (fun i hm hi => by simp at hm; omega)
  have hbl := hb1.lt
  refine (binds_ok b (b + 1) _ A n hfA hA2 f.sym hsy rfl rfl rfl ls hd.hls hwr fs hfs W1 hb1 (hd.rd.frame hc1) hf1 (Nat.lt_succ_self _) (by omega) (fun k hk => by have := hd.o1 k hk; omega)).mono ?_
  rintro e w' ⟨rfl, so', hb2, hf2, hc2, _⟩
  have hS2 : ∀ i ∈ b :: so.v.ownBlock.toList, bc < i := fun i hi => by
    rcases List.mem_cons.1 hi with e | e
    · omega
    · have := (h2.lt i (by simpa using e)).1; omega
  have kk : Chg (bc :: b :: so.v.ownBlock.toList) W w' := (k1.mono (fun i hi _ => by simp at hi; simp [hi])).trans hc2 (fun i hi _ => List.mem_cons_of_mem _ hi)
  refine ⟨rfl, h.next hw h2 h1 kk (fun i hi => ?_) (hcu.far2 hc2 hS2) hb2 hf2⟩
  rcases List.mem_cons.1 hi with e | e
  · exact .inr (.inl e)
  · rcases List.mem_cons.1 e with e | e
    · exact .inl e
    · exact .inr (.inr (by simpa using e))
theorem BSt.one {A : Nat} (h : BSt w B m imm p f true en fs bc b W) (hw : Env w) {ls : List Seg} (hd : BIn w m ls) (hfA : f.at_ = A) (hsy : ¬ f.sym.toList = [])
    (hA2 : A + 8 * 1 < 18446744073709551616) (hwr : ∀ j, j < 1 → writS ls ((A + 8 * j : Nat) : Int) 8 = true) (hfs : fs.length + 1 ≤ 20000) :
    Calls Tryz.prog 57 #[.pointer (some ⟨b, 0, none⟩)] W fun e w' => e = .returned (.tuple #[]) ∧ (BSt w B m imm p { f with at_ := ((A + 8 * 1 : Nat) : Int) } true en (fs ++ bndW f A 1) bc b w' ∧ KeepF W w') := by
  obtain ⟨so, h1, h2⟩ := h.box
  exact one_ok14 b _ W (h.binds (n := 1) hw hd hfA hsy hA2 hwr hfs h1 h2 ((Chg.refl [] W).add) h.cur)
theorem BSt.one_not (h : BSt w B m imm p f true en fs bc b W) (hsy : f.sym = ⟨#[]⟩) :
    Calls Tryz.prog 57 #[.pointer (some ⟨b, 0, none⟩)] W fun e w' => e = stopB 14 ∧ Chg [] w w' := by
  obtain ⟨so, h1, h2⟩ := h.box
  refine one_stop 14 b _ W ((binds_not b _ 1 0 hsy rfl W h1).mono ?_)
  rintro e w' ⟨rfl, rfl⟩
  exact ⟨rfl, h.chg⟩
end
end Go.Proofs.YtkomocgodljecaaGreatDoor
/- Plain: a number's groups, shortest bytes, and what bytes say. No program in sight. -/
namespace Go.Proofs.YtkomocgodljecaaGreatDoor
open Go.RowKit

/-- A number's shortest bytes (fuel: how many bytes at most). -/
def putUf : Nat → Nat → List UInt8
  | 0, n => [UInt8.ofNat n]
  | f + 1, n => if n < 128 then [UInt8.ofNat n] else UInt8.ofNat (n % 128 + 128) :: putUf f (n / 128)
def putU (n : Nat) : List UInt8 := putUf 9 n
/-- A signed number's shortest bytes. -/
def putSf : Nat → Int → List UInt8
  | 0, n => [UInt8.ofNat (n % 128).toNat]
  | f + 1, n => if -64 ≤ n ∧ n < 64 then [UInt8.ofNat (n % 128).toNat] else UInt8.ofNat ((n % 128).toNat + 128) :: putSf f (n / 128)
def putS (n : Int) : List UInt8 := putSf 9 n
theorem putUf_length (f n : Nat) : (putUf f n).length ≤ f + 1 ∧ 0 < (putUf f n).length := by
  induction f generalizing n with
  | zero => simp [putUf]
  | succ f ih =>
    unfold putUf
    split
    · simp
    · have := ih (n / 128); simp; omega
theorem putSf_length (f : Nat) (n : Int) : (putSf f n).length ≤ f + 1 ∧ 0 < (putSf f n).length := by
  induction f generalizing n with
  | zero => simp [putSf]
  | succ f ih =>
    unfold putSf
    split
    · simp
    · have := ih (n / 128); simp; omega
theorem putUf_step (f n : Nat) (h : 128 ≤ n) : putUf (f + 1) n = UInt8.ofNat (n % 128 + 128) :: putUf f (n / 128) := by rw [putUf, if_neg (by omega)]
theorem putUf_small (f n : Nat) (h : n < 128) : putUf f n = [UInt8.ofNat n] := by cases f <;> simp [putUf, h]
theorem putSf_step (f : Nat) (n : Int) (h : ¬ (-64 ≤ n ∧ n < 64)) : putSf (f + 1) n = UInt8.ofNat ((n % 128).toNat + 128) :: putSf f (n / 128) := by rw [putSf, if_neg h]
theorem putSf_small (f : Nat) (n : Int) (h : -64 ≤ n ∧ n < 64) : putSf f n = [UInt8.ofNat (n % 128).toNat] := by cases f <;> simp [putSf, h]
theorem or128 (x : Nat) (h : x < 256) : x ||| 128 = x % 128 + 128 := by
  have h1 : x = x / 128 * 128 + x % 128 := by omega
  by_cases hx : x < 128
  · rw [Nat.or_comm, nat_join 7 128 x (by decide) (by omega)]; omega
  · have e : x = 128 ||| (x % 128) := by rw [nat_join 7 128 (x % 128) (by decide) (by omega)]; omega
    rw [Nat.or_comm, e, ← Nat.or_assoc, Nat.or_self, nat_join 7 128 (x % 128) (by decide) (by omega)]
    have : (128 + x % 128) % 128 = x % 128 := by omega
    omega
end Go.Proofs.YtkomocgodljecaaGreatDoor
/- Plain: what bytes say as a number; no number's bytes begin another one's. No program in sight. -/
namespace Go.Proofs.YtkomocgodljecaaGreatDoor
open Go.RowKit

def gsOf (l : List UInt8) : List Nat := l.map fun b => b.toNat % 128
def uval : List Nat → Nat
  | [] => 0
  | x :: r => x + 128 * uval r
theorem toNat_ofNat (x : Nat) (h : x < 256) : (UInt8.ofNat x).toNat = x := by simp; omega
theorem uval_putUf (f : Nat) : ∀ n, n < 128 ^ (f + 1) → uval (gsOf (putUf f n)) = n := by
  induction f with
  | zero => intro n h; simp [putUf, gsOf, uval]; omega
  | succ f ih =>
    intro n h
    by_cases hn : n < 128
    · rw [putUf_small _ n hn]; simp [gsOf, uval]; omega
    · rw [putUf_step f n (by omega)]
      have := ih (n / 128) (by rw [Nat.pow_succ] at h; omega)
      simp only [gsOf, List.map_cons, uval, toNat_ofNat _ (show n % 128 + 128 < 256 by omega)] at this ⊢
      rw [this]; omega
theorem putUf_shape (f : Nat) : ∀ n, n < 128 ^ (f + 1) → ∃ r b, putUf f n = r ++ [b] ∧ b.toNat < 128 ∧ ∀ x ∈ r, 128 ≤ x.toNat := by
  induction f with
  | zero => intro n h; exact ⟨[], UInt8.ofNat n, rfl, by rw [toNat_ofNat n (by omega)]; omega, fun _ hm => by cases hm⟩
  | succ f ih =>
    intro n h
    by_cases hn : n < 128
    · exact ⟨[], UInt8.ofNat n, putUf_small _ n hn, by rw [toNat_ofNat n (by omega)]; exact hn, fun _ hm => by cases hm⟩
    · obtain ⟨r, b, e, hb, hr⟩ := ih (n / 128) (by rw [Nat.pow_succ] at h; omega)
      refine ⟨UInt8.ofNat (n % 128 + 128) :: r, b, by rw [putUf_step f n (by omega), e]; rfl, hb, fun x hx => ?_⟩
      cases hx with
      | head => rw [toNat_ofNat _ (by omega)]; omega
      | tail _ hx => exact hr x hx
theorem lt_pow10 (n : Nat) (h : n < 18446744073709551616) : n < 128 ^ (9 + 1) := by omega
end Go.Proofs.YtkomocgodljecaaGreatDoor
