/- CustodyParts: an order has its quantity and its money together in its parts, whatever comes; each part is a whole number of lots or all that is left; what is taken is there: for every four numbers and every two lists of numbers. -/
import Derived.Test.YtpbkmkclagikhaaTop
import Derived.Test.YtpbkmkclagikhaaOpen
import Derived.Test.YtpbkmkclagikhaaRow
import Derived.Test.YtpbkmkclagikhaaRows
import Derived.ChangeVars
import Derived.JoinedOf
import Derived.ProofKit
import Derived.Test.YtpbkmkclagikhaaArr
namespace Go.Proofs.Ytpbkmkclagikhaa
set_option linter.unusedVariables false
namespace custodyParts
open Go.ChangeShapes Go.WideShapes Go.ChangeAt Go.RowKit
theorem own : ownKnob Try.prog.godebug = none := by kernel_rfl
theorem laid : laidOutB Try.prog = true := by kernel_rfl
theorem cells_int64 : Try.prog.cellsOf 2 = 1 := by kernel_rfl
theorem bytes_int64 : Try.prog.bytesOf 2 = 8 := by kernel_rfl
set_option maxRecDepth 100000 in
theorem lifted (os : Os) (started : os.Started) (H : Type) (enc : TypeId × Value → H) :
    ReturnsInHanded {} Try.checked os 5 .any (Rows.custodyPartsSpec.pre6 enc Try.prog Try.f5 Rows.custodyPartsRow.domain false) (Rows.custodyPartsSpec.post enc Try.prog Try.f5 false true false false) := by
  refine returnsInHanded_of_change_sized (C := Try.checked) own started (by kernel_rfl) Try.func5
    (ChangeSpec.witness6 (enc := enc) (C := Try.checked) false ⟨#[], #[.int .i64 0, .int .i64 0, .int .i64 0, .int .i64 0, .slice none 0 0, .slice none 0 0], []⟩ 8 (by kernel_rfl) (by kernel_rfl) (by kernel_rfl) (by kernel_rfl)) ?_
  intro W base args ds gs before hval0 hW _ hsz0 _
  have hsz : (DataW.weightsEach Try.prog (Try.f5.params.toList ++ Rows.custodyPartsSpec.plain.varTypes Try.prog) (ds ++ gs)).all (· ≤ reachBytes) = true := hsz0
  clear hsz0
  have hval : ∀ (j : Nat) t v, Try.f5.params[j]? = some t → args[j]? = some v → Value.okWide Try.prog W .any base t v := hval0
  have hW' := hW
  obtain ⟨p, q, hA0, hV, rfl, hfz, hnd⟩ := hW
  have hA : DataW.TrodAll enc Try.prog W 0 (fun _ => true) true Try.f5.params.toList args.toList ds p := hA0
  rw [Try.params5] at hA hval hsz
  obtain ⟨v0, vs0, d0, ds0, p0, q0, hargs, rfl, rfl, h0, r0⟩ := trodAll_cons hA
  obtain ⟨v1, vs1, d1, ds1, p1, q1, rfl, rfl, rfl, h1, r1⟩ := trodAll_cons r0
  obtain ⟨v2, vs2, d2, ds2, p2, q2, rfl, rfl, rfl, h2, r2⟩ := trodAll_cons r1
  obtain ⟨v3, vs3, d3, ds3, p3, q3, rfl, rfl, rfl, h3, r3⟩ := trodAll_cons r2
  obtain ⟨v4, vs4, d4, ds4, p4, q4, rfl, rfl, rfl, h4, r4⟩ := trodAll_cons r3
  obtain ⟨v5, vs5, d5, ds5, p5, q5, rfl, rfl, rfl, h5, r5⟩ := trodAll_cons r4
  obtain ⟨rfl, rfl, rfl⟩ := trodAll_nil r5
  obtain rfl : args = #[v0, v1, v2, v3, v4, v5] := by cases args; simp_all
  obtain ⟨rfl, rfl⟩ := trodVars_none hV
  have hlt : ∀ x ∈ (p0 ++ (p1 ++ (p2 ++ (p3 ++ (p4 ++ (p5 ++ [])))))) ++ [], x.block < W.heap.size := fun x hx => hW'.lt x hx
  obtain ⟨a0, rfl, rfl, rfl, w0⟩ := open_int Try.underlying2 (hval 0 2 v0 rfl rfl) h0
  obtain ⟨a1, rfl, rfl, rfl, w1⟩ := open_int Try.underlying2 (hval 1 2 v1 rfl rfl) h1
  obtain ⟨a2, rfl, rfl, rfl, w2⟩ := open_int Try.underlying2 (hval 2 2 v2 rfl rfl) h2
  obtain ⟨a3, rfl, rfl, rfl, w3⟩ := open_int Try.underlying2 (hval 3 2 v3 rfl rfl) h3
  obtain ⟨A4, n4, c4, xs4, rfl, hc4, hr4, hw4, hn4⟩ := Law.open_nums Try.underlying35 Try.underlying2 cells_int64 bytes_int64 (hval 4 35 v4 rfl rfl) h4 (fun x hx => hlt x (by simp [hx])) hsz (j := 4) rfl rfl
  obtain ⟨A5, n5, c5, xs5, rfl, hc5, hr5, hw5, hn5⟩ := Law.open_nums Try.underlying35 Try.underlying2 cells_int64 bytes_int64 (hval 5 35 v5 rfl rfl) h5 (fun x hx => hlt x (by simp [hx])) hsz (j := 5) rfl rfl
  clear hA0 hval0
  refine (Prt.parts_any a0 a1 a2 a3 A4 A5 n4 c4 n5 c5 xs4 xs5 W (Law.wf_i64 w0) (Law.wf_i64 w1) (Law.wf_i64 w2) (Law.wf_i64 w3) hr4 hr5 (fun x hx => Law.wf_i64 (hw4 x hx)) (fun x hx => Law.wf_i64 (hw5 x hx)) (by omega) (by omega)).mono fun e W' ⟨he, hb⟩ => ?_
  subst he
  exact ⟨_, rfl, Law.post_law (tb := 4) hW' hb laid (by decide +kernel) (by intro n g t h; cases h) rfl Try.underlying4 rfl rfl rfl⟩
theorem over : Rows.custodyPartsRow.holds Try.pinned (OpenSpec.ofChange Rows.custodyPartsSpec) :=
  OpenClaim.holds_of_wide 5 Try.f5 rfl rfl rfl rfl rfl rfl rfl ⟨rfl, rfl, rfl, rfl, rfl⟩ rfl rfl rfl rfl rfl (by kernel_rfl) Try.func5 (by kernel_rfl)
    (of_decide_eq_true (by kernel_rfl)) (by unfold Func.isWrapper; first | (rw [if_pos (by decide +kernel)]; kernel_rfl) | (rw [if_neg (by decide +kernel)]; exact ⟨rfl, rfl⟩))
    (fun os started H enc _ => lifted os started H enc)
theorem proved : Rows.CustodyPartsSaid := over
#print axioms proved
end custodyParts
end Go.Proofs.Ytpbkmkclagikhaa
