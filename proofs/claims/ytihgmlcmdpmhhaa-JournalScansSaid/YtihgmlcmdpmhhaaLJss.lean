/- JournalScans: records' frames one behind the other are read as these; of a beginning a beginning; a disk of such a beginning is opened with these: for every row of records and every place; no condition. -/
import Derived.Test.YtihgmlcmdpmhhaaJss
import Derived.Test.YtihgmlcmdpmhhaaJsr
import Derived.Test.YtihgmlcmdpmhhaaOpR
import Derived.Test.YtihgmlcmdpmhhaaRow
import Derived.Test.YtihgmlcmdpmhhaaRows
import Derived.ChangeVars
import Derived.JoinedOf
import Derived.ProofKit
namespace Go.Proofs.Ytihgmlcmdpmhhaa
set_option linter.unusedVariables false
namespace journalScans
open Go.ChangeShapes Go.WideShapes Go.ChangeAt Go.RowKit
theorem own : ownKnob Try.prog.godebug = none := by kernel_rfl
theorem laid : laidOutB Try.prog = true := by kernel_rfl
set_option maxRecDepth 100000 in
theorem lifted (os : Os) (started : os.Started) (H : Type) (enc : TypeId × Value → H) :
    ReturnsInHanded {} Try.checked os 3 .any (Rows.journalScansSpec.pre6 enc Try.prog Try.f3 Rows.journalScansRow.domain false) (Rows.journalScansSpec.post enc Try.prog Try.f3 false true false false) := by
  refine returnsInHanded_of_change_sized (C := Try.checked) own started (by kernel_rfl) Try.func3
    (ChangeSpec.witness6 (enc := enc) (C := Try.checked) false ⟨#[], #[.slice none 0 0, .int .i64 0], []⟩ 8 (by kernel_rfl) (by kernel_rfl) (by kernel_rfl) (by kernel_rfl)) ?_
  intro W base args ds gs before hval0 hW _ hsz0 _
  have hsz : (DataW.weightsEach Try.prog (Try.f3.params.toList ++ Rows.journalScansSpec.plain.varTypes Try.prog) (ds ++ gs)).all (· ≤ reachBytes) = true := hsz0
  clear hsz0
  have hval : ∀ (j : Nat) t v, Try.f3.params[j]? = some t → args[j]? = some v → Value.okWide Try.prog W .any base t v := hval0
  have hW' := hW
  obtain ⟨p, q, hA0, hV, rfl, hfz, hnd⟩ := hW
  have hA : DataW.TrodAll enc Try.prog W 0 (fun _ => true) true Try.f3.params.toList args.toList ds p := hA0
  rw [Try.params3] at hA hval hsz
  obtain ⟨v0, vs0, d0, ds0, p0, q0, hargs, rfl, rfl, h0, r0⟩ := trodAll_cons hA
  obtain ⟨v1, vs1, d1, ds1, p1, q1, rfl, rfl, rfl, h1, r1⟩ := trodAll_cons r0
  obtain ⟨rfl, rfl, rfl⟩ := trodAll_nil r1
  obtain rfl : args = #[v0, v1] := by cases args; simp_all
  obtain ⟨rfl, rfl⟩ := trodVars_none hV
  have hlt : ∀ x ∈ (p0 ++ (p1 ++ [])) ++ [], x.block < W.heap.size := fun x hx => hW'.lt x hx
  obtain ⟨A0, c0, R0, rfl, hc0, hn0, hV0⟩ := Law.open_rowsN Try.underlying22 Try.underlying23 Try.underlying5 (show Try.prog.cellsOf 23 = 1 by kernel_rfl) (show Try.prog.bytesOf 23 = 24 by kernel_rfl) (show Try.prog.cellsOf 5 = 1 by kernel_rfl) (show Try.prog.bytesOf 5 = 1 by kernel_rfl) (hval 0 22 v0 rfl rfl) h0 hsz (j := 0) rfl rfl
  obtain ⟨a1, rfl, rfl, rfl, w1⟩ := open_int Try.underlying3 (hval 1 3 v1 rfl rfl) h1
  clear hA0 hval0
  refine (Jrn.jscans_any _ A0 _ c0 R0 a1 W (Jrn.rdr_of hV0) hc0 (Jrn.i64_wf w1) (by omega) (Jrn.rows_byt hV0)).mono fun e W' ⟨he, hb⟩ => ?_
  subst he
  exact ⟨_, rfl, Law.post_law (tb := 4) hW' hb laid (by decide +kernel) (by intro n g t h; cases h) rfl Try.underlying4 rfl rfl rfl⟩
theorem over : Rows.journalScansRow.holds Try.pinned (OpenSpec.ofChange Rows.journalScansSpec) :=
  OpenClaim.holds_of_wide 3 Try.f3 rfl rfl rfl rfl rfl rfl rfl ⟨rfl, rfl, rfl, rfl, rfl⟩ rfl rfl rfl rfl rfl (by kernel_rfl) Try.func3 (by kernel_rfl)
    (of_decide_eq_true (by kernel_rfl)) (by unfold Func.isWrapper; first | (rw [if_pos (by decide +kernel)]; kernel_rfl) | (rw [if_neg (by decide +kernel)]; exact ⟨rfl, rfl⟩))
    (fun os started H enc _ => lifted os started H enc)
theorem proved : Rows.JournalScansSaid := over
#print axioms proved
end journalScans
end Go.Proofs.Ytihgmlcmdpmhhaa
