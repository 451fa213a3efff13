/- Lemmas, laid together: part 27 of 35. Conditions: none but each lemma's own. -/
import Derived.Test.YtlblcbgmmfjdjaaGreatDoorJ20
import Derived.Test.YtlblcbgmmfjdjaaGreatDoorJ21
import Derived.Test.YtlblcbgmmfjdjaaGreatDoorJ24
import Derived.Test.YtlblcbgmmfjdjaaGreatDoorJ25
import Derived.Test.YtlblcbgmmfjdjaaGreatDoorJ26
import Derived.Test.YtlblcbgmmfjdjaaGreatDoorJ8
/- rebase.Decode's state, and what each opcode makes of it. -/
namespace Go.Proofs.YtlblcbgmmfjdjaaGreatDoor
open Go.RowKit
set_option maxRecDepth 100000

/-- What Decode is called with. -/
structure DIn (w : World) (c0 : Rdr) (ls : List Seg) (l : List UInt8) : Prop where
  hls : SegsB ls
  rd : segL.Rd w c0.m.segs.v ls
  hl : l.length ≤ 100000000
  sl : byteL.Rd w c0.sl.v l
  o1 : ∀ k, c0.m.segs.v.ownBlock = some k → k < w.heap.size
  o2 : ∀ k, c0.sl.v.ownBlock = some k → k < w.heap.size
/-- The reader at a place of its stream: where it stands, and what it has. -/
structure DSt (w : World) (B : List UInt8) (c0 : Rdr) (p A : Nat) (is_ : Bool) (typ : Int) (fs : List Fx) (bc b : Nat) (W : World) : Prop where
  lo : w.heap.size ≤ bc
  hi : bc < b
  env : Env W
  cur : CurB W bc ⟨B, p, false, false⟩
  chg : Chg [] w W
  box : ∃ so : SlV, rdrL.Box W b { c0 with c := some ⟨bc, 0, none⟩, at_ := (A : Int), is_ := is_, typ := typ, out := so } ∧ FB W (b + 1) so.v fs
theorem DSt.lt {w W : World} {B : List UInt8} {c0 : Rdr} {p A : Nat} {is_ : Bool} {typ : Int} {fs : List Fx} {bc b : Nat} (h : DSt w B c0 p A is_ typ fs bc b W) : b < W.heap.size := by
  obtain ⟨so, h1, _⟩ := h.box
  exact h1.lt
/-- A write to the reader's own blocks. -/
theorem DSt.env2 {w W W' : World} {B : List UInt8} {c0 : Rdr} {p A : Nat} {is_ : Bool} {typ : Int} {fs : List Fx} {bc b : Nat} (h : DSt w B c0 p A is_ typ fs bc b W) (hw : Env w) {S : List Nat} (k : Chg S W W') (hS : ∀ i ∈ S, bc ≤ i) : Env W' :=
  h.env.frame k (fun hm => by have := hS _ hm; have := hw.pos; have := h.lo; omega)
theorem DSt.chg2 {w W W' : World} {B : List UInt8} {c0 : Rdr} {p A : Nat} {is_ : Bool} {typ : Int} {fs : List Fx} {bc b : Nat} (h : DSt w B c0 p A is_ typ fs bc b W) {S : List Nat} (k : Chg S W W') (hS : ∀ i ∈ S, bc ≤ i) : Chg [] w W' :=
  h.chg.trans k (fun i hm hi => by have := hS _ hm; have := h.lo; omega)
/-- The cursor goes on. -/
theorem DSt.took {w W W' : World} {B : List UInt8} {c0 : Rdr} {p A : Nat} {is_ : Bool} {typ : Int} {fs : List Fx} {bc b : Nat} (h : DSt w B c0 p A is_ typ fs bc b W) (hw : Env w) (k : Chg [bc] W W') {p' : Nat} (hc : CurB W' bc ⟨B, p', false, false⟩) : DSt w B c0 p' A is_ typ fs bc b W' := by
  obtain ⟨so, h1, h2⟩ := h.box
  have hb := h.hi
  refine ⟨h.lo, h.hi, h.env2 hw k (by simp), hc, h.chg2 k (by simp), so, h1.frameS k (by simp; omega), h2.frame k (fun i hi hm => ?_)⟩
  have := (h2.lt i hi).1
  simp at hm
  omega
theorem DSt.typ1 {w W : World} {B : List UInt8} {c0 : Rdr} {p A : Nat} {is_ : Bool} {typ : Int} {fs : List Fx} {bc b : Nat} (h : DSt w B c0 p A is_ typ fs bc b W) (hw : Env w) (imm : Nat) :
    Calls Tryz.prog 11 #[.pointer (some ⟨b, 0, none⟩), .int .u8 1, .int .u8 imm] W fun e w' => e = .returned (.int .i64 0) ∧ DSt w B c0 p A is_ (imm : Int) fs bc b w' := by
  obtain ⟨so, h1, h2⟩ := h.box
  have hb := h.hi
  refine (step_typ b bc _ imm _ rfl W h.cur rfl h1).mono ?_
  rintro e w' ⟨rfl, hb', hc'⟩
  refine ⟨rfl, h.lo, h.hi, h.env2 hw hc' (by simp; omega), h.cur.far2 hc' (by simp; omega), h.chg2 hc' (by simp; omega), so, hb', h2.frame hc' (fun i hi hm => ?_)⟩
  have := (h2.lt i hi).1
  simp at hm
  omega
theorem DSt.place2 {w W : World} {B : List UInt8} {c0 : Rdr} {p A : Nat} {is_ : Bool} {typ : Int} {fs : List Fx} {bc b : Nat} (h : DSt w B c0 p A is_ typ fs bc b W) (hw : Env w) {ls : List Seg} {l : List UInt8} (hd : DIn w c0 ls l) (imm : Nat) (hi : imm < 256) {n p' A' : Nat}
    (hv : lebV ulebR ⟨B, p, false, false⟩ = n ∧ lebS ulebR ⟨B, p, false, false⟩ = ⟨B, p', false, false⟩) (hA : placeS ls imm n = ((A' : Int), 0)) :
    Calls Tryz.prog 11 #[.pointer (some ⟨b, 0, none⟩), .int .u8 2, .int .u8 imm] W fun e w' => e = .returned (.int .i64 0) ∧ DSt w B c0 p' A' true typ fs bc b w' := by
  obtain ⟨so, h1, h2⟩ := h.box
  have hb := h.hi
  have hlo := h.lo
  refine (step_place b bc _ imm n hi _ rfl W h.env h.cur h.hi (by rw [hv.2]) hv.1 h1 ls (hd.rd.frame h.chg) (fun k hk hm => by have := hd.o1 k hk; simp at hm; omega) A' hA).mono ?_
  rintro e w' ⟨rfl, hb', hcu, hc'⟩
  rw [hv.2] at hcu
  refine ⟨rfl, h.lo, h.hi, h.env2 hw hc' (by simp; omega), hcu, h.chg2 hc' (by simp; omega), so, hb', h2.frame hc' (fun i hi hm => ?_)⟩
  have := (h2.lt i hi).1
  simp at hm
  omega
/-- Behind so many rebases. -/
theorem DSt.many {w W W2 : World} {B : List UInt8} {c0 : Rdr} {p A : Nat} {fs : List Fx} {bc b : Nat} (h : DSt w B c0 p A true 1 fs bc b W) (hw : Env w) {so : SlV} (hf : FB W (b + 1) so.v fs)
    {p' A' : Nat} {fs' : List Fx} {W1 : World} (hc1 : Chg [bc] W W1) (hcu : CurB W1 bc ⟨B, p', false, false⟩)
    (ho : OneP b (b + 1) { c0 with c := some ⟨bc, 0, none⟩, at_ := (A : Int), is_ := true, typ := 1, out := so } A' fs' W1 W2) : DSt w B c0 p' A' true 1 fs' bc b W2 := by
  obtain ⟨so2, b2, f2, c2, _⟩ := ho
  have hb := h.hi
  have hS : ∀ i ∈ b :: so.v.ownBlock.toList, bc < i := fun i hi => by
    rcases List.mem_cons.1 hi with e | e
    · omega
    · have := (hf.lt i (by simpa using e)).1; omega
  have h1 := h.took hw hc1 hcu
  exact ⟨h.lo, h.hi, h1.env2 hw c2 (fun i hi => Nat.le_of_lt (hS i hi)), hcu.far2 c2 hS, h1.chg2 c2 (fun i hi => Nat.le_of_lt (hS i hi)), so2, b2, f2⟩
/-- So many rebases at once, of an opcode's own number. -/
theorem DSt.imm5 {w W : World} {B : List UInt8} {c0 : Rdr} {p A : Nat} {fs : List Fx} {bc b : Nat} (h : DSt w B c0 p A true 1 fs bc b W) (hw : Env w) {ls : List Seg} {l : List UInt8} (hd : DIn w c0 ls l) (n : Nat) (hi : n < 256)
    (hA2 : A + 8 * n < 18446744073709551616) (hwr : ∀ j, j < n → writS ls ((A + 8 * j : Nat) : Int) 8 = true) (hfs : fs.length + n ≤ 20000) (hn : n ≠ 0) :
    Calls Tryz.prog 11 #[.pointer (some ⟨b, 0, none⟩), .int .u8 5, .int .u8 n] W fun e w' => e = .returned (.int .i64 0) ∧ DSt w B c0 p (A + 8 * n) true 1 (fs ++ rebW ls l A n) bc b w' := by
  obtain ⟨so, h1, h2⟩ := h.box
  have hlt := h.lt
  have hb := h.hi
  have hlo := h.lo
  refine step_imm b bc _ n _ rfl rfl (fun w' => DSt w B c0 p (A + 8 * n) true 1 (fs ++ rebW ls l A n) bc b w') rfl W h.cur rfl h1 hi (fun W1 hc1 => ?_)
  have hs := h.chg.then hc1
  refine (many_ok b (b + 1) _ A n rfl hA2 ls hd.hls hwr l hd.hl fs hfs hn W1 (h1.frame hc1) (hd.rd.frame hs) (hd.sl.frame hs) (h2.pure hc1) (by omega) (by have := hc1.size; omega) (fun k hk => by have := hd.o1 k hk; omega) (fun k hk => by have := hd.o2 k hk; omega)).mono ?_
  rintro e w2 ⟨rfl, ho⟩
  exact ⟨rfl, h.many hw h2 hc1.add (h.cur.frame hc1) ho⟩
/-- So many rebases at once, of a number behind the opcode. -/
theorem DSt.num6 {w W : World} {B : List UInt8} {c0 : Rdr} {p A : Nat} {fs : List Fx} {bc b : Nat} (h : DSt w B c0 p A true 1 fs bc b W) (hw : Env w) {ls : List Seg} {l : List UInt8} (hd : DIn w c0 ls l) (imm : Nat) {n p' : Nat}
    (hv : lebV ulebR ⟨B, p, false, false⟩ = n ∧ lebS ulebR ⟨B, p, false, false⟩ = ⟨B, p', false, false⟩)
    (hA2 : A + 8 * n < 18446744073709551616) (hwr : ∀ j, j < n → writS ls ((A + 8 * j : Nat) : Int) 8 = true) (hfs : fs.length + n ≤ 20000) :
    Calls Tryz.prog 11 #[.pointer (some ⟨b, 0, none⟩), .int .u8 6, .int .u8 imm] W fun e w' => e = .returned (.int .i64 0) ∧ DSt w B c0 p' (A + 8 * n) true 1 (fs ++ rebW ls l A n) bc b w' := by
  obtain ⟨so, h1, h2⟩ := h.box
  have hlt := h.lt
  have hb := h.hi
  have hlo := h.lo
  refine (step_num b bc _ imm n _ rfl rfl (fun q w' => q = 0 ∧ DSt w B c0 p' (A + 8 * n) true 1 (fs ++ rebW ls l A n) bc b w') rfl W h.env h.cur (by omega) (by rw [hv.2]) hv.1 h1 (fun W1 hc1 hcu => ?_)).mono ?_
  · rw [hv.2] at hcu
    have hs := h.chg2 hc1 (by simp)
    have f2 := h2.frame hc1 (fun i hi hm => by have := (h2.lt i hi).1; simp at hm; omega)
    have b2 := h1.frameS hc1 (by simp; omega)
    by_cases hn : n = 0
    · subst hn
      refine (many_none b 0 W1).mono ?_
      rintro e w2 ⟨rfl, hc2⟩
      refine ⟨0, rfl, rfl, ?_⟩
      have h3 := h.took hw (hc1.then hc2) (hcu.frame hc2)
      simpa [rebW] using h3
    · refine (many_ok b (b + 1) _ A n rfl hA2 ls hd.hls hwr l hd.hl fs hfs hn W1 b2 (hd.rd.frame hs) (hd.sl.frame hs) f2 (by omega) (by have := hc1.size; omega) (fun k hk => by have := hd.o1 k hk; omega) (fun k hk => by have := hd.o2 k hk; omega)).mono ?_
      rintro e w2 ⟨rfl, ho⟩
      exact ⟨0, rfl, rfl, h.many hw h2 hc1 hcu ho⟩
  · rintro e w2 ⟨q, rfl, rfl, h3⟩
    exact ⟨rfl, h3⟩
/-- More than may be. -/
theorem DSt.big6 {w W : World} {B : List UInt8} {c0 : Rdr} {p A : Nat} {fs : List Fx} {bc b : Nat} (h : DSt w B c0 p A true 1 fs bc b W) (imm : Nat) {n p' : Nat}
    (hv : lebV ulebR ⟨B, p, false, false⟩ = n ∧ lebS ulebR ⟨B, p, false, false⟩ = ⟨B, p', false, false⟩) (hn : n < 18446744073709551616)
    (hfs : fs.length ≤ 20000) (hbig : 20000 < fs.length + n) :
    Calls Tryz.prog 11 #[.pointer (some ⟨b, 0, none⟩), .int .u8 6, .int .u8 imm] W fun e w' => e = .returned (.int .i64 11) ∧ Chg [] w w' := by
  obtain ⟨so, h1, h2⟩ := h.box
  have hb := h.hi
  refine (step_num b bc _ imm n _ rfl rfl (fun q w' => q = 11 ∧ Chg [] w w') rfl W h.env h.cur (by omega) (by rw [hv.2]) hv.1 h1 (fun W1 hc1 _ => ?_)).mono ?_
  · have f2 := h2.frame hc1 (fun i hi hm => by have := (h2.lt i hi).1; simp at hm; omega)
    refine (many_big b (b + 1) _ n hn 0 fs hfs hbig W1 (h1.frameS hc1 (by simp; omega)) f2).mono ?_
    rintro e w2 ⟨rfl, hc2⟩
    exact ⟨11, rfl, rfl, (h.chg2 hc1 (by simp)).then hc2⟩
  · rintro e w2 ⟨q, rfl, rfl, h3⟩
    exact ⟨rfl, h3⟩
end Go.Proofs.YtlblcbgmmfjdjaaGreatDoor
/- Plain: a number's groups, shortest bytes, and what bytes say. No program in sight. -/
namespace Go.Proofs.YtlblcbgmmfjdjaaGreatDoor
open Go.RowKit

/-- A number's shortest bytes (fuel: how many bytes at most). -/
def putUf : Nat → Nat → List UInt8
  | 0, n => [UInt8.ofNat n]
  | f + 1, n => if n < 128 then [UInt8.ofNat n] else UInt8.ofNat (n % 128 + 128) :: putUf f (n / 128)
def putU (n : Nat) : List UInt8 := putUf 9 n
/-- A signed number's shortest bytes. -/
def putSf : Nat → Int → List UInt8
  | 0, n => [UInt8.ofNat (n % 128).toNat]
  | f + 1, n => if -64 ≤ n ∧ n < 64 then [UInt8.ofNat (n % 128).toNat] else UInt8.ofNat ((n % 128).toNat + 128) :: putSf f (n / 128)
def putS (n : Int) : List UInt8 := putSf 9 n
theorem putUf_length (f n : Nat) : (putUf f n).length ≤ f + 1 ∧ 0 < (putUf f n).length := by
  induction f generalizing n with
  | zero => simp [putUf]
  | succ f ih =>
    unfold putUf
    split
    · simp
    · have := ih (n / 128); simp; omega
theorem putSf_length (f : Nat) (n : Int) : (putSf f n).length ≤ f + 1 ∧ 0 < (putSf f n).length := by
  induction f generalizing n with
  | zero => simp [putSf]
  | succ f ih =>
    unfold putSf
    split
    · simp
    · have := ih (n / 128); simp; omega
/-- More fuel changes nothing. -/
theorem putUf_fuel (f : Nat) : ∀ (n : Nat), n < 128 ^ (f + 1) → putUf f n = putUf (f + 1) n := by
  induction f with
  | zero => intro n h; simp [putUf]; omega
  | succ f ih =>
    intro n h
    rw [putUf, putUf]
    split
    · rfl
    · rw [ih (n / 128) (by rw [Nat.pow_succ] at h; omega)]
theorem putUf_step (f n : Nat) (h : 128 ≤ n) : putUf (f + 1) n = UInt8.ofNat (n % 128 + 128) :: putUf f (n / 128) := by rw [putUf, if_neg (by omega)]
theorem putUf_small (f n : Nat) (h : n < 128) : putUf f n = [UInt8.ofNat n] := by cases f <;> simp [putUf, h]
theorem putSf_step (f : Nat) (n : Int) (h : ¬ (-64 ≤ n ∧ n < 64)) : putSf (f + 1) n = UInt8.ofNat ((n % 128).toNat + 128) :: putSf f (n / 128) := by rw [putSf, if_neg h]
theorem putSf_small (f : Nat) (n : Int) (h : -64 ≤ n ∧ n < 64) : putSf f n = [UInt8.ofNat (n % 128).toNat] := by cases f <;> simp [putSf, h]
theorem or128 (x : Nat) (h : x < 256) : x ||| 128 = x % 128 + 128 := by
  have h1 : x = x / 128 * 128 + x % 128 := by omega
  by_cases hx : x < 128
  · rw [Nat.or_comm, nat_join 7 128 x (by decide) (by omega)]; omega
  · have e : x = 128 ||| (x % 128) := by rw [nat_join 7 128 (x % 128) (by decide) (by omega)]; omega
    rw [Nat.or_comm, e, ← Nat.or_assoc, Nat.or_self, nat_join 7 128 (x % 128) (by decide) (by omega)]
    have : (128 + x % 128) % 128 = x % 128 := by omega
    omega
end Go.Proofs.YtlblcbgmmfjdjaaGreatDoor
/- Plain: what bytes say as a number; no number's bytes begin another one's. No program in sight. -/
namespace Go.Proofs.YtlblcbgmmfjdjaaGreatDoor
open Go.RowKit

def gsOf (l : List UInt8) : List Nat := l.map fun b => b.toNat % 128
def uval : List Nat → Nat
  | [] => 0
  | x :: r => x + 128 * uval r
theorem toNat_ofNat (x : Nat) (h : x < 256) : (UInt8.ofNat x).toNat = x := by simp; omega
theorem uval_putUf (f : Nat) : ∀ n, n < 128 ^ (f + 1) → uval (gsOf (putUf f n)) = n := by
  induction f with
  | zero => intro n h; simp [putUf, gsOf, uval]; omega
  | succ f ih =>
    intro n h
    by_cases hn : n < 128
    · rw [putUf_small _ n hn]; simp [gsOf, uval]; omega
    · rw [putUf_step f n (by omega)]
      have := ih (n / 128) (by rw [Nat.pow_succ] at h; omega)
      simp only [gsOf, List.map_cons, uval, toNat_ofNat _ (show n % 128 + 128 < 256 by omega)] at this ⊢
      rw [this]; omega
theorem putUf_shape (f : Nat) : ∀ n, n < 128 ^ (f + 1) → ∃ r b, putUf f n = r ++ [b] ∧ b.toNat < 128 ∧ ∀ x ∈ r, 128 ≤ x.toNat := by
  induction f with
  | zero => intro n h; exact ⟨[], UInt8.ofNat n, rfl, by rw [toNat_ofNat n (by omega)]; omega, fun _ hm => by cases hm⟩
  | succ f ih =>
    intro n h
    by_cases hn : n < 128
    · exact ⟨[], UInt8.ofNat n, putUf_small _ n hn, by rw [toNat_ofNat n (by omega)]; exact hn, fun _ hm => by cases hm⟩
    · obtain ⟨r, b, e, hb, hr⟩ := ih (n / 128) (by rw [Nat.pow_succ] at h; omega)
      refine ⟨UInt8.ofNat (n % 128 + 128) :: r, b, by rw [putUf_step f n (by omega), e]; rfl, hb, fun x hx => ?_⟩
      cases hx with
      | head => rw [toNat_ofNat _ (by omega)]; omega
      | tail _ hx => exact hr x hx
theorem putUf_mono (f : Nat) : ∀ n m, n ≤ m → (putUf f n).length ≤ (putUf f m).length := by
  induction f with
  | zero => intro n m _; simp [putUf]
  | succ f ih =>
    intro n m h
    by_cases hn : n < 128
    · rw [putUf_small _ n hn]; exact (putUf_length _ m).2
    · rw [putUf_step f n (by omega), putUf_step f m (by omega)]
      have := ih (n / 128) (m / 128) (by omega)
      simpa using this
theorem lt_pow10 (n : Nat) (h : n < 18446744073709551616) : n < 128 ^ (9 + 1) := by omega
theorem putU_mono (n m : Nat) (h : n ≤ m) : (putU n).length ≤ (putU m).length := putUf_mono 9 n m h
theorem putU_prefix (n m : Nat) (hn : n < 18446744073709551616) (hm : m < 18446744073709551616) (h : n ≠ m) : (putU m).take (putU n).length ≠ putU n := by
  intro e
  obtain ⟨r, b, e1, hb, hr⟩ := putUf_shape 9 n (lt_pow10 n hn)
  obtain ⟨r', b', e2, hb', hr'⟩ := putUf_shape 9 m (lt_pow10 m hm)
  have hn' : putU n = r ++ [b] := e1
  have hm' : putU m = r' ++ [b'] := e2
  rw [hn', hm'] at e
  by_cases hl : r.length < r'.length
  · have h1 : ((r' ++ [b']).take (r ++ [b]).length)[r.length]? = some b := by rw [e]; simp
    rw [List.getElem?_take, if_pos (by simp), List.getElem?_append_left hl] at h1
    have := hr' b (List.mem_of_getElem? h1)
    omega
  · have hlen : (r' ++ [b']).length ≤ (r ++ [b]).length := by simp; omega
    rw [List.take_of_length_le hlen] at e
    apply h
    rw [← uval_putUf 9 n (lt_pow10 n hn), ← uval_putUf 9 m (lt_pow10 m hm), e1, e2, e]
end Go.Proofs.YtlblcbgmmfjdjaaGreatDoor
