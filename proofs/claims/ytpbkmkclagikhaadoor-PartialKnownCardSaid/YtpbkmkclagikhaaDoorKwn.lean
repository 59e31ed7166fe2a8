/- PartialKnown: the walk. -/
import Derived.Test.YtpbkmkclagikhaaDoorEdg
import Derived.Test.YtpbkmkclagikhaaDoorShw
namespace Go.Proofs.YtpbkmkclagikhaaDoor
set_option linter.unusedVariables false
set_option linter.unusedSimpArgs false
namespace Prt
open Go.RowKit Mem Dvs Err
set_option maxHeartbeats 1000000 in
set_option maxRecDepth 100000 in
theorem known_any (w : World) (hg : Laid w) : Calls Tryd.prog 8 #[] w fun e w' => e = .returned (.bool true) ∧ Below w.heap.size w w' := by
  have HG := Held.mk hg
  clear hg
  go_enter Tryd.func8, Tryd.ntmps8
  go_wp2_with fail
  refine (shown_any w HG.out).mono ?_
  rintro e w1 ⟨rfl, hb1⟩
  have HB1 := Held.mk hb1
  clear hb1
  go_wp2_with fail
  refine (edged_any w1 (HG.out.below HB1.out)).mono ?_
  rintro e w2 ⟨rfl, hb2⟩
  have HB2 : Held (Below w.heap.size w w2) := ⟨HB1.out.trans (hb2.mono HB1.out.size)⟩
  clear hb2
  go_wp2
  go_ret
  exact ⟨rfl, HB2.out⟩
end Prt
end Go.Proofs.YtpbkmkclagikhaaDoor
