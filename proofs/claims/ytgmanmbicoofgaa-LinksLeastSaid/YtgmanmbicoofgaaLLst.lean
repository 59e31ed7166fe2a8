/- LinksLeast: the groups that rows of pairs make: the two of a pair are in one, and from each thing its group is met: for every number and every row of pairs; no condition. -/
import Derived.Test.YtgmanmbicoofgaaLst
import Derived.Test.YtgmanmbicoofgaaOpA
import Derived.Test.YtgmanmbicoofgaaRow
import Derived.Test.YtgmanmbicoofgaaRows
import Derived.ChangeVars
import Derived.JoinedOf
import Derived.ProofKit
namespace Go.Proofs.Ytgmanmbicoofgaa
set_option linter.unusedVariables false
namespace linksLeast
open Go.ChangeShapes Go.WideShapes Go.ChangeAt Go.RowKit
theorem own : ownKnob Try.prog.godebug = none := by kernel_rfl
theorem laid : laidOutB Try.prog = true := by kernel_rfl
theorem cellsInt : Try.prog.cellsOf 3 = 1 := by kernel_rfl
theorem cellsTwo : Try.prog.cellsOf 31 = 2 := by kernel_rfl
theorem bytesTwo : Try.prog.bytesOf 31 = 16 := by kernel_rfl
theorem mkTwo {H : Type} {enc : TypeId × Value → H} {W : World} (vs : Nat → Value)
    (h : ∀ j, j < 2 → ∃ (n : Nat) (y : DataW H × List MemPlace), DataW.trod enc Try.prog W 0 (fun _ => true) true n 3 [vs j] = some y) :
    ∃ p : Ord.Two, p.Good ∧ ∀ j, j < 2 → (Ord.Two.cells p)[j]? = some (vs j) := by
  obtain ⟨n0, y0, h0⟩ := h 0 (by decide)
  obtain ⟨n1, y1, h1⟩ := h 1 (by decide)
  obtain ⟨a0, e0, _, g0⟩ := DataW.trod_int Try.underlying3 h0
  obtain ⟨a1, e1, _, g1⟩ := DataW.trod_int Try.underlying3 h1
  simp [Lit.wf, IntKind.min, IntKind.max, IntKind.signed, IntKind.bits] at g0 g1
  refine ⟨⟨a0, a1⟩, ⟨by simp only; omega, by simp only; omega⟩, fun j hj => ?_⟩
  have hj2 : j = 0 ∨ j = 1 := by omega
  simp only [List.cons.injEq, and_true] at e0 e1
  rcases hj2 with rfl | rfl
  · rw [e0]; rfl
  · rw [e1]; rfl
set_option maxRecDepth 100000 in
theorem lifted (os : Os) (started : os.Started) (H : Type) (enc : TypeId × Value → H) :
    ReturnsInHanded {} Try.checked os 3 .any (Rows.linksLeastSpec.pre6 enc Try.prog Try.f3 Rows.linksLeastRow.domain false) (Rows.linksLeastSpec.post enc Try.prog Try.f3 false true false false) := by
  refine returnsInHanded_of_change_sized (C := Try.checked) own started (by kernel_rfl) Try.func3
    (ChangeSpec.witness6 (enc := enc) (C := Try.checked) false ⟨#[], #[.int .i64 0, .slice none 0 0], []⟩ 8 (by kernel_rfl) (by kernel_rfl) (by kernel_rfl) (by kernel_rfl)) ?_
  intro W base args ds gs before hval0 hW _ hsz0 _
  have hsz : (DataW.weightsEach Try.prog (Try.f3.params.toList ++ Rows.linksLeastSpec.plain.varTypes Try.prog) (ds ++ gs)).all (· ≤ reachBytes) = true := hsz0
  clear hsz0
  have hval : ∀ (j : Nat) t v, Try.f3.params[j]? = some t → args[j]? = some v → Value.okWide Try.prog W .any base t v := hval0
  have hW' := hW
  obtain ⟨p, q, hA0, hV, rfl, hfz, hnd⟩ := hW
  have hA : DataW.TrodAll enc Try.prog W 0 (fun _ => true) true Try.f3.params.toList args.toList ds p := hA0
  rw [Try.params3] at hA hval hsz
  obtain ⟨v0, vs0, d0, ds0, p0, q0, hargs, rfl, rfl, h0, r0⟩ := trodAll_cons hA
  obtain ⟨v1, vs1, d1, ds1, p1, q1, rfl, rfl, rfl, h1, r1⟩ := trodAll_cons r0
  obtain ⟨rfl, rfl, rfl⟩ := trodAll_nil r1
  obtain rfl : args = #[v0, v1] := by cases args; simp_all
  obtain ⟨rfl, rfl⟩ := trodVars_none hV
  have hlt : ∀ x ∈ (p0 ++ (p1 ++ [])) ++ [], x.block < W.heap.size := fun x hx => hW'.lt x hx
  obtain ⟨a0, rfl, rfl, rfl, w0⟩ := open_int Try.underlying3 (hval 0 3 v0 rfl rfl) h0
  obtain ⟨A1, c1, ps1, rfl, hc1, hr1, hg1, hn1⟩ := Law.open_arrs Ord.Two.cells Ord.Two.Good (fun _ => rfl) (by decide) mkTwo Try.underlying22 Try.underlying31 cellsInt cellsTwo bytesTwo (hval 1 22 v1 rfl rfl) h1 (fun x hx => hlt x (by simp [hx])) hsz (j := 1) rfl rfl
  clear hA0 hval0
  refine (Ord.least_any a0 A1 ps1.length c1 ps1 W (by simp [Lit.wf, IntKind.min, IntKind.max, IntKind.signed, IntKind.bits] at w0; omega) rfl (by omega) hr1 hg1).mono fun e W' ⟨he, hb⟩ => ?_
  subst he
  exact ⟨_, rfl, Law.post_law (tb := 4) hW' hb laid (by decide +kernel) (by intro n g t h; cases h) rfl Try.underlying4 rfl rfl rfl⟩
theorem over : Rows.linksLeastRow.holds Try.pinned (OpenSpec.ofChange Rows.linksLeastSpec) :=
  OpenClaim.holds_of_wide 3 Try.f3 rfl rfl rfl rfl rfl rfl rfl ⟨rfl, rfl, rfl, rfl, rfl⟩ rfl rfl rfl rfl rfl (by kernel_rfl) Try.func3 (by kernel_rfl)
    (of_decide_eq_true (by kernel_rfl)) (by unfold Func.isWrapper; first | (rw [if_pos (by decide +kernel)]; kernel_rfl) | (rw [if_neg (by decide +kernel)]; exact ⟨rfl, rfl⟩))
    (fun os started H enc _ => lifted os started H enc)
theorem proved : Rows.LinksLeastSaid := over
#print axioms proved
end linksLeast
end Go.Proofs.Ytgmanmbicoofgaa
