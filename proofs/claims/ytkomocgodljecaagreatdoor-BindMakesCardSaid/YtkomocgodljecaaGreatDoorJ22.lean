/- Lemmas, laid together: part 22 of 40. Conditions: none but each lemma's own. -/
import Derived.Test.YtkomocgodljecaaGreatDoorJ21
import Derived.Test.YtkomocgodljecaaGreatDoorJ13
import Derived.Test.YtkomocgodljecaaGreatDoorJ16
import Derived.Test.YtkomocgodljecaaGreatDoorJ17
import Derived.Test.YtkomocgodljecaaGreatDoorJ19
import Derived.Lib.Strings
import Derived.Laws.CopyRow
import Derived.Test.YtkomocgodljecaaGreatDoorJ8
/- bind.Decode's state, and what each opcode makes of it. -/
namespace Go.Proofs.YtkomocgodljecaaGreatDoor
open Go.RowKit
set_option maxRecDepth 100000

def bR (bc : Nat) (m : Img) (imm : Int) (f : Fx) (is_ en : Bool) (so : SlV) : Brd := ⟨some ⟨bc, 0, none⟩, m, 1, imm, f, is_, 1, so, en⟩
/-- What Decode is called with. -/
structure BIn (w : World) (m : Img) (ls : List Seg) : Prop where
  hls : SegsB ls
  rd : segL.Rd w m.segs.v ls
  o1 : ∀ k, m.segs.v.ownBlock = some k → k < w.heap.size
/-- The reader at a place of its stream: where it stands, and what it has. -/
structure BSt (w : World) (B : List UInt8) (m : Img) (imm : Int) (p : Nat) (f : Fx) (is_ en : Bool) (fs : List Fx) (bc b : Nat) (W : World) : Prop where
  lo : w.heap.size ≤ bc
  hi : bc < b
  env : Env W
  cur : CurB W bc ⟨B, p, false, false⟩
  chg : Chg [] w W
  box : ∃ so : SlV, brdL.Box W b (bR bc m imm f is_ en so) ∧ FB W (b + 1) so.v fs
theorem BSt.lt {w W : World} {B : List UInt8} {m : Img} {imm : Int} {p : Nat} {f : Fx} {is_ en : Bool} {fs : List Fx} {bc b : Nat} (h : BSt w B m imm p f is_ en fs bc b W) : b < W.heap.size := by
  obtain ⟨so, h1, _⟩ := h.box
  exact h1.lt
theorem BSt.pure {w W W' : World} {B : List UInt8} {m : Img} {imm : Int} {p : Nat} {f : Fx} {is_ en : Bool} {fs : List Fx} {bc b : Nat} (h : BSt w B m imm p f is_ en fs bc b W) (k : Chg [] W W') : BSt w B m imm p f is_ en fs bc b W' := by
  obtain ⟨so, h1, h2⟩ := h.box
  exact ⟨h.lo, h.hi, h.env.frame k (by simp), h.cur.frame k, h.chg.then k, so, h1.frame k, h2.pure k⟩
/-- Behind a write to the reader's own blocks. -/
theorem BSt.next {w W W' : World} {B : List UInt8} {m : Img} {imm : Int} {p : Nat} {f : Fx} {is_ en : Bool} {fs : List Fx} {bc b : Nat} (h : BSt w B m imm p f is_ en fs bc b W) (hw : Env w) {so : SlV} (hf : FB W (b + 1) so.v fs) (hb : brdL.Box W b (bR bc m imm f is_ en so))
    {S : List Nat} (k : Chg S W W') (hS : ∀ i ∈ S, i = b ∨ i = bc ∨ so.v.ownBlock = some i) {imm' : Int} {p' : Nat} {f' : Fx} {is' en' : Bool} {fs' : List Fx} {so' : SlV} (hc' : CurB W' bc ⟨B, p', false, false⟩) (hb' : brdL.Box W' b (bR bc m imm' f' is' en' so')) (hf' : FB W' (b + 1) so'.v fs') :
    BSt w B m imm' p' f' is' en' fs' bc b W' ∧ KeepF W W' := by
  have hlo := h.lo
  have hhi := h.hi
  have hS2 : ∀ i ∈ S, bc ≤ i := fun i hi => by
    rcases hS i hi with e | e | e
    · omega
    · omega
    · have := (hf.lt i e).1; omega
  refine ⟨⟨h.lo, h.hi, h.env.frame k (fun hm => by have := hS2 _ hm; have := hw.pos; omega), hc', h.chg.trans k (fun i hm hi => by have := hS2 _ hm; omega), so', hb', hf'⟩, fun q hq => hq.frameS k (fun hm => ?_)⟩
  rcases hS q hm with e | e | e
  · exact fns_ne_b hb hq e
  · exact fns_ne_c h.cur hq e
  · exact fns_ne_o hf e hq rfl
/-- The opcode's byte is taken, its number kept. -/
theorem BSt.took {w W W' : World} {B : List UInt8} {m : Img} {imm0 : Int} {p : Nat} {f : Fx} {is_ en : Bool} {fs : List Fx} {bc b : Nat} (h : BSt w B m imm0 p f is_ en fs bc b W) (hw : Env w) (k : Chg [bc] W W') {p' : Nat} (hc : CurB W' bc ⟨B, p', false, false⟩) (imm : Int) : BSt w B m imm p' f is_ en fs bc b (W'.setCell ⟨b, 26, none⟩ (.int .u8 imm)) := by
  obtain ⟨so, h1, h2⟩ := h.box
  have hhi := h.hi
  have kk : Chg [bc, b] W (W'.setCell ⟨b, 26, none⟩ (.int .u8 imm)) := (k.mono (fun i hi _ => by simp at hi; simp [hi])).setCell _ _ (.inl (by simp))
  have hb' := h1.frameS k (by simp; omega)
  exact (h.next hw h2 h1 kk (fun i hi => by simp at hi; rcases hi with e | e; exact .inr (.inl e); exact .inl e) (hc.far2 (S := [b]) ((Chg.refl _ _).setCell _ _ (.inl (by simp))) (by simp; omega)) (Brd.set_imm hb' imm) (h2.frame kk (fun i hi hm => by have := (h2.lt i hi).1; simp at hm; omega))).1
section
variable {w W : World} {B : List UInt8} {m : Img} {imm : Int} {p : Nat} {f : Fx} {is_ en : Bool} {fs : List Fx} {bc b : Nat}
theorem BSt.own (h : BSt w B m imm p f is_ en fs bc b W) {so : SlV} (hf : FB W (b + 1) so.v fs) {S : List Nat} {W' : World} (k : Chg S W W') (hS : ∀ i ∈ S, i = b ∨ i = bc) : FB W' (b + 1) so.v fs :=
  hf.frame k (fun i hi hm => by have := (hf.lt i hi).1; have := h.hi; rcases hS i hm with e | e <;> omega)
theorem BSt.ordinal {n : Nat} (h : BSt w B m (n : Int) p f is_ en fs bc b W) (hw : Env w) (hn : n ≤ m.deps.n) (hn2 : n ≤ 1000) (hd2 : m.deps.n ≤ 1000) :
    Calls Tryz.prog 49 #[.pointer (some ⟨b, 0, none⟩)] W fun e w' => e = .returned (.tuple #[]) ∧ BSt w B m (n : Int) p { f with ord := (n : Int) } is_ en fs bc b w' ∧ KeepF W w' := by
  obtain ⟨so, h1, h2⟩ := h.box
  have hhi := h.hi
  refine (ordinal_ok b n _ rfl rfl hn hn2 hd2 W h1).mono ?_
  rintro e w' ⟨rfl, hb, hc⟩
  exact ⟨rfl, h.next hw h2 h1 hc (fun i hi => .inl (by simpa using hi)) (h.cur.far2 hc (by simp; omega)) hb (h.own h2 hc (fun i hi => .inl (by simpa using hi)))⟩
theorem BSt.endS (h : BSt w B m imm p f is_ en fs bc b W) (hw : Env w) :
    Calls Tryz.prog 48 #[.pointer (some ⟨b, 0, none⟩)] W fun e w' => e = .returned (.tuple #[]) ∧ BSt w B m imm p f is_ true fs bc b w' ∧ KeepF W w' := by
  obtain ⟨so, h1, h2⟩ := h.box
  have hhi := h.hi
  refine (end_ok b _ rfl W h1).mono ?_
  rintro e w' ⟨rfl, hb, hc⟩
  exact ⟨rfl, h.next hw h2 h1 hc (fun i hi => .inl (by simpa using hi)) (h.cur.far2 hc (by simp; omega)) hb (h.own h2 hc (fun i hi => .inl (by simpa using hi)))⟩
theorem BSt.symbol (h : BSt w B m 0 p f is_ en fs bc b W) (hw : Env w) {p' : Nat} (sy : ByteArray) (hsy : sy = ⟨#[97]⟩ ∨ sy = ⟨#[95, 97]⟩) (hs : textS ⟨B, p, false, false⟩ 1099511627776 = ⟨B, p', false, false⟩) (hv : (⟨(textL ⟨B, p, false, false⟩ 1099511627776).toArray⟩ : ByteArray) = sy) :
    Calls Tryz.prog 52 #[.pointer (some ⟨b, 0, none⟩)] W fun e w' => e = .returned (.tuple #[]) ∧ BSt w B m 0 p' { f with sym := sy, weak := false } is_ en fs bc b w' ∧ KeepF W w' := by
  obtain ⟨so, h1, h2⟩ := h.box
  have hhi := h.hi
  refine (symbol_ok b bc _ _ _ sy hsy rfl rfl rfl h.hi hs rfl hv W h.cur h1).mono ?_
  rintro e w' ⟨rfl, hb, hcu, hc⟩
  have hS : ∀ i ∈ [b, bc], i = b ∨ i = bc := fun i hi => by simpa using hi
  exact ⟨rfl, h.next hw h2 h1 hc (fun i hi => (hS i hi).imp id .inl) hcu hb (h.own h2 hc hS)⟩
theorem BSt.place {im n p' A : Nat} (h : BSt w B m (im : Int) p f is_ en fs bc b W) (hw : Env w) {ls : List Seg} (hd : BIn w m ls) (hi2 : im < 256)
    (hv : lebV ulebR ⟨B, p, false, false⟩ = n ∧ lebS ulebR ⟨B, p, false, false⟩ = ⟨B, p', false, false⟩) (hA : placeS ls im n = ((A : Int), 0)) :
    Calls Tryz.prog 55 #[.pointer (some ⟨b, 0, none⟩)] W fun e w' => e = .returned (.tuple #[]) ∧ BSt w B m (im : Int) p' { f with at_ := (A : Int) } true en fs bc b w' ∧ KeepF W w' := by
  obtain ⟨so, h1, h2⟩ := h.box
  have hhi := h.hi
  have hlo := h.lo
  refine (place_ok b bc im n _ _ rfl hi2 rfl h.hi (by rw [hv.2]) hv.1 W h.env h.cur h1 ls (hd.rd.frame h.chg) (fun k hk hm => by have := hd.o1 k hk; simp at hm; omega) A hA).mono ?_
  rintro e w' ⟨rfl, hb, hcu, hc⟩
  rw [hv.2] at hcu
  have hS : ∀ i ∈ [b, bc], i = b ∨ i = bc := fun i hi => by simpa using hi
  exact ⟨rfl, h.next hw h2 h1 hc (fun i hi => (hS i hi).imp id .inl) hcu hb (h.own h2 hc hS)⟩
/-- binds, where they may be. -/
theorem BSt.binds {A n : Nat} (h : BSt w B m imm p f true en fs bc b W) (hw : Env w) {ls : List Seg} (hd : BIn w m ls) (hfA : f.at_ = A) (hsy : ¬ f.sym.toList = []) (hA2 : A + 8 * n < 18446744073709551616) (hwr : ∀ j, j < n → writS ls ((A + 8 * j : Nat) : Int) 8 = true) (hfs : fs.length + n ≤ 20000)
    {so : SlV} (h1 : brdL.Box W b (bR bc m imm f true en so)) (h2 : FB W (b + 1) so.v fs) {W1 : World} (k1 : Chg [bc] W W1) {p' : Nat} (hcu : CurB W1 bc ⟨B, p', false, false⟩) :
    Calls Tryz.prog 75 #[.pointer (some ⟨b, 0, none⟩), .int .u64 n, .int .u64 0] W1 fun e w' => e = .returned (.tuple #[]) ∧ (BSt w B m imm p' { f with at_ := ((A + 8 * n : Nat) : Int) } true en (fs ++ bndW f A n) bc b w' ∧ KeepF W w') := by
  have hhi := h.hi
  have hlo := h.lo
  have hb1 := h1.frameS k1 (by simp; omega)
  have hf1 := h.own h2 k1 (fun i hi => .inr (by simpa using hi))
  have hc1 : Chg [] w W1 := h.chg.trans k1 (fun i hm hi => by simp at hm; omega)
  have hbl := hb1.lt
  refine (binds_ok b (b + 1) _ A n hfA hA2 f.sym hsy rfl rfl rfl ls hd.hls hwr fs hfs W1 hb1 (hd.rd.frame hc1) hf1 (Nat.lt_succ_self _) (by omega) (fun k hk => by have := hd.o1 k hk; omega)).mono ?_
  rintro e w' ⟨rfl, so', hb2, hf2, hc2, _⟩
  have hS2 : ∀ i ∈ b :: so.v.ownBlock.toList, bc < i := fun i hi => by
    rcases List.mem_cons.1 hi with e | e
    · omega
    · have := (h2.lt i (by simpa using e)).1; omega
  have kk : Chg (bc :: b :: so.v.ownBlock.toList) W w' := (k1.mono (fun i hi _ => by simp at hi; simp [hi])).trans hc2 (fun i hi _ => List.mem_cons_of_mem _ hi)
  refine ⟨rfl, h.next hw h2 h1 kk (fun i hi => ?_) (hcu.far2 hc2 hS2) hb2 hf2⟩
  rcases List.mem_cons.1 hi with e | e
  · exact .inr (.inl e)
  · rcases List.mem_cons.1 e with e | e
    · exact .inl e
    · exact .inr (.inr (by simpa using e))
theorem BSt.one {A : Nat} (h : BSt w B m imm p f true en fs bc b W) (hw : Env w) {ls : List Seg} (hd : BIn w m ls) (hfA : f.at_ = A) (hsy : ¬ f.sym.toList = [])
    (hA2 : A + 8 * 1 < 18446744073709551616) (hwr : ∀ j, j < 1 → writS ls ((A + 8 * j : Nat) : Int) 8 = true) (hfs : fs.length + 1 ≤ 20000) :
    Calls Tryz.prog 57 #[.pointer (some ⟨b, 0, none⟩)] W fun e w' => e = .returned (.tuple #[]) ∧ (BSt w B m imm p { f with at_ := ((A + 8 * 1 : Nat) : Int) } true en (fs ++ bndW f A 1) bc b w' ∧ KeepF W w') := by
  obtain ⟨so, h1, h2⟩ := h.box
  exact one_ok14 b _ W (h.binds (n := 1) hw hd hfA hsy hA2 hwr hfs h1 h2 ((Chg.refl [] W).add) h.cur)
theorem BSt.one_not (h : BSt w B m imm p f true en fs bc b W) (hsy : f.sym = ⟨#[]⟩) :
    Calls Tryz.prog 57 #[.pointer (some ⟨b, 0, none⟩)] W fun e w' => e = stopB 14 ∧ Chg [] w w' := by
  obtain ⟨so, h1, h2⟩ := h.box
  refine one_stop 14 b _ W ((binds_not b _ 1 0 hsy rfl W h1).mono ?_)
  rintro e w' ⟨rfl, rfl⟩
  exact ⟨rfl, h.chg⟩
end
end Go.Proofs.YtkomocgodljecaaGreatDoor
/- Plain: a number's groups, shortest bytes, and what bytes say. No program in sight. -/
namespace Go.Proofs.YtkomocgodljecaaGreatDoor
open Go.RowKit

/-- A number's shortest bytes (fuel: how many bytes at most). -/
def putUf : Nat → Nat → List UInt8
  | 0, n => [UInt8.ofNat n]
  | f + 1, n => if n < 128 then [UInt8.ofNat n] else UInt8.ofNat (n % 128 + 128) :: putUf f (n / 128)
def putU (n : Nat) : List UInt8 := putUf 9 n
/-- A signed number's shortest bytes. -/
def putSf : Nat → Int → List UInt8
  | 0, n => [UInt8.ofNat (n % 128).toNat]
  | f + 1, n => if -64 ≤ n ∧ n < 64 then [UInt8.ofNat (n % 128).toNat] else UInt8.ofNat ((n % 128).toNat + 128) :: putSf f (n / 128)
def putS (n : Int) : List UInt8 := putSf 9 n
theorem putUf_length (f n : Nat) : (putUf f n).length ≤ f + 1 ∧ 0 < (putUf f n).length := by
  induction f generalizing n with
  | zero => simp [putUf]
  | succ f ih =>
    unfold putUf
    split
    · simp
    · have := ih (n / 128); simp; omega
theorem putSf_length (f : Nat) (n : Int) : (putSf f n).length ≤ f + 1 ∧ 0 < (putSf f n).length := by
  induction f generalizing n with
  | zero => simp [putSf]
  | succ f ih =>
    unfold putSf
    split
    · simp
    · have := ih (n / 128); simp; omega
theorem putUf_step (f n : Nat) (h : 128 ≤ n) : putUf (f + 1) n = UInt8.ofNat (n % 128 + 128) :: putUf f (n / 128) := by rw [putUf, if_neg (by omega)]
theorem putUf_small (f n : Nat) (h : n < 128) : putUf f n = [UInt8.ofNat n] := by cases f <;> simp [putUf, h]
theorem putSf_step (f : Nat) (n : Int) (h : ¬ (-64 ≤ n ∧ n < 64)) : putSf (f + 1) n = UInt8.ofNat ((n % 128).toNat + 128) :: putSf f (n / 128) := by rw [putSf, if_neg h]
theorem putSf_small (f : Nat) (n : Int) (h : -64 ≤ n ∧ n < 64) : putSf f n = [UInt8.ofNat (n % 128).toNat] := by cases f <;> simp [putSf, h]
theorem or128 (x : Nat) (h : x < 256) : x ||| 128 = x % 128 + 128 := by
  have h1 : x = x / 128 * 128 + x % 128 := by omega
  by_cases hx : x < 128
  · rw [Nat.or_comm, nat_join 7 128 x (by decide) (by omega)]; omega
  · have e : x = 128 ||| (x % 128) := by rw [nat_join 7 128 (x % 128) (by decide) (by omega)]; omega
    rw [Nat.or_comm, e, ← Nat.or_assoc, Nat.or_self, nat_join 7 128 (x % 128) (by decide) (by omega)]
    have : (128 + x % 128) % 128 = x % 128 := by omega
    omega
end Go.Proofs.YtkomocgodljecaaGreatDoor
/- Plain: what bytes say as a number; no number's bytes begin another one's. No program in sight. -/
namespace Go.Proofs.YtkomocgodljecaaGreatDoor
open Go.RowKit

def gsOf (l : List UInt8) : List Nat := l.map fun b => b.toNat % 128
def uval : List Nat → Nat
  | [] => 0
  | x :: r => x + 128 * uval r
end Go.Proofs.YtkomocgodljecaaGreatDoor
/- Plain: what groups of bytes come to, as numbers and as signed ones. No program in sight. -/
namespace Go.Proofs.YtkomocgodljecaaGreatDoor
open Go.RowKit

/-- Where the number ahead ends: how many bytes it has with the i ahead of them; 0: nowhere. -/
def szL : List UInt8 → Nat → Nat
  | [], _ => 0
  | b :: r, i => if 10 ≤ i then 0 else if b.toNat < 128 then i + 1 else szL r (i + 1)
theorem szL_bd (l : List UInt8) : ∀ i, szL l i = 0 ∨ (i < szL l i ∧ szL l i ≤ 10 ∧ szL l i ≤ i + l.length) := by
  induction l with
  | nil => intro i; exact .inl rfl
  | cons b r ih =>
    intro i
    unfold szL
    split
    · exact .inl rfl
    · split
      · right; simp; omega
      · rcases ih (i + 1) with h | h
        · exact .inl h
        · right; simp; omega
def uvalV (l : List UInt8) : Option (Nat × Nat) :=
  if szL l 0 = 0 then none else if szL l 0 = 10 ∧ 1 < (gsOf (l.take (szL l 0))).getD 9 0 then none else some (uval (gsOf (l.take (szL l 0))), szL l 0)
theorem uStep_eq (i x G : Nat) (hi : i < 10) (hx : x < 128) (hok : uOk i x = true) (hG : G < 128 ^ i) : uStep i x (G : Int) = ((G + 128 ^ i * x : Nat) : Int) := by
  have e128 : (128 : Nat) ^ i = 2 ^ (7 * i) := by rw [Nat.pow_mul]
  have hx2 : 128 ^ i * x < 18446744073709551616 := by
    by_cases h9 : i < 9
    · have : (128 : Nat) ^ i ≤ 128 ^ 8 := Nat.pow_le_pow_right (by decide) (by omega)
      have : 128 ^ i * x ≤ 128 ^ 8 * 127 := Nat.mul_le_mul this (by omega)
      omega
    · obtain rfl : i = 9 := by omega
      have : x ≤ 1 := by simpa [uOk] using hok
      omega
  have hG2 : G < 18446744073709551616 := by
    have : (128 : Nat) ^ i ≤ 128 ^ 9 := Nat.pow_le_pow_right (by decide) (by omega)
    omega
  unfold uStep
  have e1 : (x : Int) * 2 ^ (7 * i) = ((128 ^ i * x : Nat) : Int) := by rw [e128, Nat.mul_comm (2 ^ (7 * i)) x]; push_cast; rfl
  rw [e1, IntKind.wrap_u64, Int.emod_eq_of_lt (by omega) (by omega), u64_or_nat _ _ hG2 hx2, Nat.or_comm, nat_join (7 * i) _ _ (by rw [← e128]; exact Nat.mul_mod_right _ _) (by rw [← e128]; exact hG), Nat.add_comm]
theorem grp_u (l : List UInt8) : ∀ (i G : Nat), i ≤ 10 → G < 128 ^ i → grp uOk uStep l i (G : Int) =
    if szL l i = 0 then none else if szL l i = 10 ∧ 1 < (gsOf (l.take (szL l i - i))).getD (9 - i) 0 then none else some (((G + 128 ^ i * uval (gsOf (l.take (szL l i - i))) : Nat) : Int), szL l i) := by
  induction l with
  | nil => intro i G _ _; rfl
  | cons b r ih =>
    intro i G hi hG
    have hbd := szL_bd r (i + 1)
    have hx : b.toNat % 128 < 128 := Nat.mod_lt _ (by decide)
    by_cases h10 : 10 ≤ i
    · rw [grp, if_pos h10, szL, if_pos h10, if_pos rfl]
    · rw [grp, if_neg h10, szL, if_neg h10]
      by_cases h128 : b.toNat < 128
      · rw [if_pos h128, if_pos h128, if_neg (show ¬ i + 1 = 0 by omega), show i + 1 - i = 1 by omega]
        have eg : gsOf ((b :: r).take 1) = [b.toNat % 128] := rfl
        rw [eg]
        by_cases hok : uOk i (b.toNat % 128) = true
        · rw [if_neg (show ¬ uOk i (b.toNat % 128) = false by rw [hok]; decide), if_neg, uStep_eq i _ G (by omega) hx hok hG]
          · simp [uval]
          · rintro ⟨h1, h2⟩
            obtain rfl : i = 9 := by omega
            simp [uOk] at hok h2
            omega
        · have hok' : uOk i (b.toNat % 128) = false := by simpa using hok
          rw [if_pos hok', if_pos]
          simp [uOk] at hok'
          obtain rfl : i = 9 := by omega
          exact ⟨rfl, by simp; omega⟩
      · rw [if_neg h128, if_neg h128]
        by_cases hok : uOk i (b.toNat % 128) = true
        · rw [if_neg (show ¬ uOk i (b.toNat % 128) = false by rw [hok]; decide), uStep_eq i _ G (by omega) hx hok hG, ih (i + 1) _ (by omega) (by
            rw [Nat.pow_succ]
            have : 128 ^ i * (b.toNat % 128) ≤ 128 ^ i * 127 := Nat.mul_le_mul_left _ (by omega)
            omega)]
          rcases hbd with h0 | ⟨h1, h2, h3⟩
          · rw [if_pos h0, if_pos h0]
          · have hne : ¬ szL r (i + 1) = 0 := by omega
            rw [if_neg hne, if_neg hne]
            have et : szL r (i + 1) - i = (szL r (i + 1) - (i + 1)) + 1 := by omega
            have eg : gsOf ((b :: r).take (szL r (i + 1) - i)) = (b.toNat % 128) :: gsOf (r.take (szL r (i + 1) - (i + 1))) := by rw [et]; rfl
            rw [eg]
            have e9 : szL r (i + 1) = 10 → ((b.toNat % 128) :: gsOf (r.take (szL r (i + 1) - (i + 1)))).getD (9 - i) 0 = (gsOf (r.take (szL r (i + 1) - (i + 1)))).getD (9 - (i + 1)) 0 := by
              intro h
              rw [show 9 - i = (9 - (i + 1)) + 1 by omega]; rfl
            by_cases hc : szL r (i + 1) = 10 ∧ 1 < (gsOf (r.take (szL r (i + 1) - (i + 1)))).getD (9 - (i + 1)) 0
            · rw [if_pos hc, if_pos ⟨hc.1, by rw [e9 hc.1]; exact hc.2⟩]
            · rw [if_neg hc, if_neg (fun hh => hc ⟨hh.1, by rw [← e9 hh.1]; exact hh.2⟩)]
              simp only [uval, Nat.pow_succ, Nat.mul_add, Nat.mul_assoc, Nat.add_assoc]
        · have hok' : uOk i (b.toNat % 128) = false := by simpa using hok
          rw [if_pos hok']
          simp [uOk] at hok'
          obtain rfl : i = 9 := by omega
          rcases hbd with h0 | ⟨h1, h2, h3⟩
          · rw [if_pos h0]
          · omega
theorem ulebR_eq (l : List UInt8) : ulebR l = (uvalV l).map fun p => ((p.1 : Int), p.2) := by
  have := grp_u l 0 0 (by omega) (by decide)
  unfold ulebR uvalV
  rw [show ((0 : Nat) : Int) = 0 from rfl] at this
  rw [this]
  simp only [Nat.sub_zero, Nat.pow_zero, Nat.one_mul, Nat.zero_add]
  split
  · rfl
  · split <;> rfl

end Go.Proofs.YtkomocgodljecaaGreatDoor
/- Plain: a number of three groups, with groups of nothing behind it. -/
namespace Go.Proofs.YtkomocgodljecaaGreatDoor
open Go.RowKit

/-- A number of one group. -/
theorem lebV1 (l : List UInt8) (k : Nat) (big : Bool) (x : UInt8) (r : List UInt8) (h : l.drop k = x :: r) (hx : x.toNat < 128) :
    lebV ulebR ⟨l, k, big, false⟩ = (x.toNat : Int) ∧ lebS ulebR ⟨l, k, big, false⟩ = ⟨l, k + 1, big, false⟩ := by
  have hv : uvalV (x :: r) = some (x.toNat, 1) := by
    have h : szL (x :: r) 0 = 1 := by rw [szL, if_neg (by omega), if_pos hx]
    unfold uvalV
    rw [h]
    simp [gsOf, uval, Nat.mod_eq_of_lt hx]
  constructor
  · simp only [lebV, Bool.false_eq_true, if_false, ulebR_eq, h, hv]; rfl
  · simp only [lebS, Bool.false_eq_true, if_false, ulebR_eq, h, hv]; rfl
end Go.Proofs.YtkomocgodljecaaGreatDoor
/- image.within, slices.Clone of bytes, image.Part. -/
namespace Go.Proofs.YtkomocgodljecaaGreatDoor
open Go.RowKit
set_option maxRecDepth 100000

end Go.Proofs.YtkomocgodljecaaGreatDoor
/- image.Part. -/
namespace Go.Proofs.YtkomocgodljecaaGreatDoor
open Go.RowKit
set_option maxRecDepth 100000

end Go.Proofs.YtkomocgodljecaaGreatDoor
/- image.Word. -/
namespace Go.Proofs.YtkomocgodljecaaGreatDoor
open Go.RowKit
set_option maxRecDepth 100000

end Go.Proofs.YtkomocgodljecaaGreatDoor
/- Plain: the state of one who goes over a stream of rebases. -/
namespace Go.Proofs.YtkomocgodljecaaGreatDoor
open Go.RowKit
set_option maxRecDepth 100000

structure RS where
  at_ : Nat
  is_ : Bool
  typ : Int
  out : List Fx
end Go.Proofs.YtkomocgodljecaaGreatDoor
/- Plain: the image of one great segment. -/
namespace Go.Proofs.YtkomocgodljecaaGreatDoor
open Go.RowKit
set_option maxRecDepth 100000

theorem protS3 : protS 3 = true := by decide
end Go.Proofs.YtkomocgodljecaaGreatDoor
/- bind.Decode of BindMany's stream, and of the chapter's. -/
namespace Go.Proofs.YtkomocgodljecaaGreatDoor
open Go.RowKit
set_option maxRecDepth 100000

def fB0 : Fx := { Fx.zero with kind := 2 }
def fB1 : Fx := { fB0 with ord := -2 }
def fB2 : Fx := { fB1 with sym := ⟨#[97]⟩, weak := false }
def cF (a b : Nat) : Nat → Fx | 0 => fB0 | 1 => fB1 | 2 => fB2 | 3 => { fB2 with at_ := ((0 : Nat) : Int) } | 4 => { fB2 with at_ := ((0 + 8 * a : Nat) : Int) } | _ => { fB2 with at_ := ((0 + 8 * a + 8 * b : Nat) : Int) }
theorem BSt.start {w W : World} {B : List UInt8} {m : Img} {bc b : Nat} (hw : Env w) (hlo : w.heap.size ≤ bc) (hlt : bc < b) (hc : CurB W bc ⟨B, 0, false, false⟩) (hb : brdL.Box W b (brd0 bc m)) (k : Chg [] w W) : BSt w B m 0 0 fB0 false false [] bc b W :=
  ⟨hlo, hlt, hw.frame k (by simp), hc, k, ⟨none, 0, 0⟩, hb, Lay.Buf.nil _ _⟩
theorem BSt.isR {w W : World} {B : List UInt8} {m : Img} {imm : Int} {p : Nat} {f : Fx} {is_ en : Bool} {fs : List Fx} {bc b : Nat} (h : BSt w B m imm p f is_ en fs bc b W) (L : Nat) (he : p < L → en = false) :
    CurB W bc ⟨B, p, false, false⟩ ∧ Chg [] w W ∧ bc < b ∧ w.heap.size ≤ bc ∧ ∃ r, brdL.Box W b r ∧ r.c = some ⟨bc, 0, none⟩ ∧ (p < L → r.ended = false) ∧ FB W (b + 1) r.out.v fs := by
  obtain ⟨so, h1, h2⟩ := h.box
  exact ⟨h.cur, h.chg, h.hi, h.lo, _, h1, rfl, he, h2⟩
theorem symB : ¬ (⟨#[95, 97]⟩ : ByteArray).toList = [] := by decide +kernel
theorem hcfSy (args : Array Value) (W : World) : (callFunc 52 args).run Tryz.prog W = .ok (.enter 52 args) W := by kernel_rfl
theorem hcfPl (args : Array Value) (W : World) : (callFunc 55 args).run Tryz.prog W = .ok (.enter 55 args) W := by kernel_rfl
theorem hcfOr (args : Array Value) (W : World) : (callFunc 49 args).run Tryz.prog W = .ok (.enter 49 args) W := by kernel_rfl
theorem hcfOn (args : Array Value) (W : World) : (callFunc 57 args).run Tryz.prog W = .ok (.enter 57 args) W := by kernel_rfl
theorem hcfEn (args : Array Value) (W : World) : (callFunc 48 args).run Tryz.prog W = .ok (.enter 48 args) W := by kernel_rfl
/-- A text that stands there. -/
theorem text_at (B : List UInt8) (p n : Nat) (t : List UInt8) (hz : Lib.indexByte (B.drop p) 0 = (n : Int)) (hn : n ≤ 1000) (ht : (B.drop p).take n = t) : textS ⟨B, p, false, false⟩ 1099511627776 = ⟨B, p + n + 1, false, false⟩ ∧ textL ⟨B, p, false, false⟩ 1099511627776 = t := by
  have hz2 : zeroAt ⟨B, p, false, false⟩ = (n : Int) := hz
  have hok : textOk ⟨B, p, false, false⟩ 1099511627776 = true := by
    unfold textOk
    rw [hz2]
    simp
    omega
  constructor
  · unfold textS
    rw [if_pos hok, hz2]
    rfl
  · unfold textL
    rw [if_pos hok, hz2]
    exact ht
end Go.Proofs.YtkomocgodljecaaGreatDoor
