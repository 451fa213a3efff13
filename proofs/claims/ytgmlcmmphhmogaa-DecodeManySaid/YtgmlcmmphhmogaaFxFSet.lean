/- fixup.Set. -/
import Derived.Test.YtgmlcmmphhmogaaFxSort
import Derived.Test.YtgmlcmmphhmogaaFxComp
import Derived.Shelf.SlSortCmp.NoneTotal
namespace Go.Proofs.Ytgmlcmmphhmogaa
open Go.RowKit
set_option maxRecDepth 100000

set_option maxHeartbeats 2000000 in
theorem FSet_any (ls : List Fx) (v : Value) (w : World) (rd : FxRd w v ls) (hlen : ls.length ≤ 100000) :
    Calls Try.prog 9 #[v] w fun e w' => ∃ v', e = .returned v' ∧ FxBuf w' w.heap.size v' (setF ls) ∧ Chg [] w w' := by
  have key : Calls Try.prog 14 #[v, .func (.func 15) #[] #[]] w fun e w' => ∃ v', e = .returned v' ∧ FxBuf w' w.heap.size v' (setF ls) ∧ Chg [] w w' := by
    have Rd := Lib.hid rd
    clear rd
    go_enter Try.func14, Try.ntmps14
    go_wp2_with fail
    refine (Clone_any ls v w Rd.out hlen).mono ?_
    rintro e w1 ⟨v1, rfl, hb, hch⟩
    have C1 := Lib.hid (hch)
    clear hch
    obtain ⟨hl0, hx⟩ := id hb
    rcases hx with ⟨rfl, h0⟩ | ⟨g, cap, cur, rfl, hbg, hg, hnc, hcm, hcs, htake⟩
    · have hls : ls = [] := List.eq_nil_of_length_eq_zero h0
      subst hls
      have Hb := Lib.hid hb
      clear hb
      have hs : ∀ W : World, Calls Try.prog 18 #[.slice none 0 0, .func (.func 15) #[] #[]] W fun e w' => e = .returned (.tuple #[]) ∧ w' = W := fun W => AnyF.slices_SortFunc_none Try.sortFx none 0 (.func (.func 15) #[] #[]) W
      have Hs := Lib.hid hs
      have Hl0 := Lib.hid hl0
      have H0 := Lib.hid h0
      clear hs hl0 h0
      go_wp2_with fail
      refine (Hs.out w1).mono ?_
      rintro e w2 ⟨rfl, rfl⟩
      go_wp2_with fail
      refine (Compact_any [] (.slice none 0 0) w2 w.heap.size Hb.out (by decide)).mono ?_
      rintro e w3 ⟨v3, rfl, hb3, _, hch⟩
      have B3 := Lib.hid (hb3)
      have C3 : Hid (Chg [] w w3) := Lib.hid (C1.out.then hch)
      clear hb3 hch
      go_wp2
      go_ret
      exact ⟨_, rfl, B3.out, C3.out⟩
    · have Hb := Lib.hid hb
      have Hbg := Lib.hid hbg
      clear hb hbg
      clear hl0 hg hcs htake hnc hcm
      go_wp2_with fail
      refine (Sort_any Hb.out (by omega)).mono ?_
      rintro e w2 ⟨rfl, ms, hb2, hml, hmem, hsl, hch⟩
      have B2 := Lib.hid (hb2)
      have C2 : Hid (Chg [] w w2) := Lib.hid (C1.out.trans hch (fun i hi hw => by have := Hbg.out; rw [List.mem_singleton] at hi; omega))
      have HSET : Hid (setF ls = compF ms) := Lib.hid (by rw [compF_set hsl]; exact setF_perm (fun z => (hmem z).symm))
      have hml2 : ms.length ≤ 100000 := by omega
      clear hb2 hml hmem hsl hch
      go_wp2_with fail
      refine (Compact_any ms _ w2 w.heap.size B2.out hml2).mono ?_
      rintro e w3 ⟨v3, rfl, hb3, _, hch⟩
      have B3 := Lib.hid (hb3)
      have C3 : Hid (Chg [] w w3) := Lib.hid (C2.out.trans hch (fun i hi hw => by have := Hbg.out; simp [Value.ownBlock] at hi; omega))
      clear hb3 hch
      go_wp2
      go_ret
      exact ⟨_, rfl, by rw [HSET.out]; exact B3.out, C3.out⟩
  have Key := Lib.hid key
  clear key
  clear rd hlen
  go_enter Try.func9, Try.ntmps9
  go_wp2_with fail
  refine Key.out.mono ?_
  rintro e w1 ⟨v1, rfl, hb, hch⟩
  have Hb := Lib.hid hb
  have Hch := Lib.hid hch
  clear hb hch
  go_wp2
  go_ret
  exact ⟨_, rfl, Hb.out, Hch.out⟩
end Go.Proofs.Ytgmlcmmphhmogaa
