/- An error's number: walked. -/
import Derived.Test.YthkhemcbkcoliaaDoorWus
namespace Go.Proofs.YthkhemcbkcoliaaDoor
set_option linter.unusedVariables false
set_option linter.unusedSimpArgs false
namespace Wire
open Go.RowKit Mem Apn Err Aps
theorem num_fitted (e : Er) (h : e.fit) (w : World) (hg : Laid w) : Calls Tryd.prog 38 #[e.enc] w fun r w' => r = .returned (.int .i64 e.code) ∧ Below w.heap.size w w' := by
  cases e with
  | ok => exact (num_nil w).mono (by rintro r w' ⟨rfl, rfl⟩; exact ⟨rfl, Below.refl _ _⟩)
  | no k => exact num_any _ _ k w (isErr_errno k) h.1 h.2
  | ref s k => exact num_any _ _ k w (isErr_wrong s k) h.1 h.2
set_option maxHeartbeats 1000000 in
set_option maxRecDepth 100000 in
theorem number_fit (e : Er) (h : e.fit) (w : World) (hg : Laid w) : Calls Tryd.prog 23 #[e.enc] w fun r w' => r = .returned (.int .i64 e.code) ∧ Below w.heap.size w w' := by
  have HN := Held.mk (fun w hg => num_fitted e h w hg)
  have HP := Held.mk (fun w hg => plain_fit e h w hg)
  have HG := Held.mk hg
  have hsh := Er.enc_cases e
  generalize e.code = k at *
  generalize e.enc = ev at *
  clear h hg
  go_enter Tryd.func23, Tryd.ntmps23
  go_wp2_with fail
  refine (HN.out _ HG.out).mono ?_
  rintro r w1 ⟨rfl, hb1⟩
  have HB1 := Held.mk hb1
  clear hb1
  go_wp2_with fail
  refine (HP.out _ (HG.out.below HB1.out)).mono ?_
  rintro r w2 ⟨rfl, hb2⟩
  have HB2 := Held.mk (HB1.out.trans (hb2.mono HB1.out.size))
  clear hb2
  go_wp2
  go_ret
  exact ⟨rfl, HB2.out⟩
end Wire
end Go.Proofs.YthkhemcbkcoliaaDoor
