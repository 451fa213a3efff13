/- clevisref12.Same. -/
import Derived.Test.YtmfphdaoenkmnaaDoorFxRSet
namespace Go.Proofs.YtmfphdaoenkmnaaDoor
open Go.RowKit
set_option maxRecDepth 100000

theorem RSame_any (ls ms : List Fx) (v v' : Value) (w : World) (rd : FxRd w v ls) (rd' : FxRd w v' ms) (hl : ls.length ≤ 100000) (hm : ms.length ≤ 100000) :
    Calls Tryd.prog 9 #[v, v'] w fun e w' => e = .returned (.bool (decide (setF ls = setF ms))) ∧ Chg [] w w' := by
  have Rd := Lib.hid rd
  have RD2 := Lib.hid rd'
  clear rd rd'
  go_enter Tryd.func9, Tryd.ntmps9
  go_wp2_with fail
  refine (RSet_any ls v w Rd.out hl).mono ?_
  rintro e w1 ⟨v1, rfl, hb, hch⟩
  have B1 := Lib.hid (hb)
  have C1 := Lib.hid (hch)
  clear hb hch
  go_wp2_with fail
  refine (RSet_any ms v' w1 (RD2.out.frame C1.out) hm).mono ?_
  rintro e w2 ⟨v2, rfl, hb, hch⟩
  have B2 := Lib.hid (hb)
  have D2 := Lib.hid (hch)
  have C2 := Lib.hid (C1.out.then hch)
  clear hb hch
  go_wp2_with fail
  refine (REqual_any (setF ls) (setF ms) v1 v2 w2 (B1.out.pure D2.out).rd B2.out.rd).mono ?_
  rintro e w3 ⟨rfl, hch⟩
  have C3 := Lib.hid (C2.out.then hch)
  clear hch
  go_wp2
  go_ret
  exact ⟨rfl, C3.out⟩
end Go.Proofs.YtmfphdaoenkmnaaDoor
