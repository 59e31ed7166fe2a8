/- LinksPool: legs are joined as the document has them, errors too; what is handed in is as it was; two answers have memory of their own: for every list of lists of legs; no condition but that errors.errorType is laid as the text lays it, which the card ties. -/
import Derived.Test.YtgmanmbicoofgaaDoorPll
import Derived.Test.YtgmanmbicoofgaaDoorOpL
import Derived.Test.YtgmanmbicoofgaaDoorRow
import Derived.Test.YtgmanmbicoofgaaDoorRows
import Derived.Test.YtgmanmbicoofgaaDoorTie
import Derived.Test.YtgmanmbicoofgaaDoorCards
import Derived.LaidLaws
import Derived.LaidHandle
import Derived.Stop.Joined
import Derived.SevenTiedAt
import Derived.ChangeVars
import Derived.JoinedOf
import Derived.ProofKit
namespace Go.Proofs.YtgmanmbicoofgaaDoor
set_option linter.unusedVariables false
namespace linksPool
open Go.ChangeShapes Go.WideShapes Go.ChangeAt Go.RowKit
theorem own : ownKnob Tryd.prog.godebug = none := by kernel_rfl
theorem laid : laidOutB Tryd.prog = true := by kernel_rfl
theorem cellsLeg : Tryd.prog.cellsOf 89 = 5 := by kernel_rfl
theorem cellsLegs : Tryd.prog.cellsOf 43 = 1 := by kernel_rfl
theorem bytesLegs : Tryd.prog.bytesOf 43 = 24 := by kernel_rfl
theorem bytesLeg : Tryd.prog.bytesOf 89 = 40 := by kernel_rfl
theorem mkLeg {H : Type} {enc : TypeId × Value → H} {W : World} (fs : Array Field) (hfs : Tryd.prog.underlying 89 = some (.struct fs)) (vs : Nat → Value)
    (h : ∀ j fd, fs[j]? = some fd → ∃ (n : Nat) (y : DataW H × List MemPlace), DataW.trod enc Tryd.prog W 0 (fun _ => true) true n fd.type [vs j] = some y) :
    ∃ p : Klg.Lg, p.Good ∧ ∀ j, j < fs.size → (Klg.Lg.cells p)[j]? = some (vs j) := by
  rw [Tryd.underlying89] at hfs
  injection hfs with hfs
  injection hfs with hfs
  subst hfs
  obtain ⟨n0, y0, h0⟩ := h 0 _ rfl
  obtain ⟨n1, y1, h1⟩ := h 1 _ rfl
  obtain ⟨n2, y2, h2⟩ := h 2 _ rfl
  obtain ⟨n3, y3, h3⟩ := h 3 _ rfl
  obtain ⟨n4, y4, h4⟩ := h 4 _ rfl
  obtain ⟨a0, e0, _, g0⟩ := DataW.trod_int Tryd.underlying3 h0
  obtain ⟨a1, e1, _, g1⟩ := DataW.trod_int Tryd.underlying3 h1
  obtain ⟨a2, e2, _, g2⟩ := DataW.trod_int Tryd.underlying3 h2
  obtain ⟨a3, e3, _, g3⟩ := DataW.trod_int Tryd.underlying2 h3
  obtain ⟨a4, e4, _, g4⟩ := DataW.trod_int Tryd.underlying3 h4
  simp [Lit.wf, IntKind.min, IntKind.max, IntKind.signed, IntKind.bits] at g0 g1 g2 g3 g4
  refine ⟨⟨a0, a1, a2, a3, a4⟩, ⟨by simp only; omega, by simp only; omega, by simp only; omega, by simp only; omega, by simp only; omega⟩, fun j hj => ?_⟩
  have hj5 : j = 0 ∨ j = 1 ∨ j = 2 ∨ j = 3 ∨ j = 4 := by
    simp at hj
    omega
  simp only [List.cons.injEq, and_true] at e0 e1 e2 e3 e4
  rcases hj5 with rfl | rfl | rfl | rfl | rfl
  · rw [e0]; rfl
  · rw [e1]; rfl
  · rw [e2]; rfl
  · rw [e3]; rfl
  · rw [e4]; rfl
theorem et : Tryd.prog.globalNamed "errors.errorType" = some 0 := by kernel_rfl
theorem rt : (Tryd.prog.cutTypes.find? (·.1 == "internal/reflectlite.rtype")).map (·.2) = some 141 := by kernel_rfl
theorem oneRow : ((List.range 210).filter fun t => Tryd.prog.rowNamed t [101, 114, 114, 111, 114]) = [28] := by kernel_rfl
theorem size : Tryd.prog.types.size = 210 := by kernel_rfl
theorem handle_of_laid {W : World} (h : laidMetH Tryd.prog Rows.linksPoolRow.laid W) : Err.Laid W := by
  have h' : laidMet Tryd.prog [] W ∧ handlesMet Tryd.prog Rows.linksPoolRow.laid W := h
  obtain ⟨name, u, ty, e1, e2, e3, e4, e5⟩ := h'.2 _ (List.mem_singleton.2 rfl)
  have en : name = [101, 114, 114, 111, 114] := (Option.some.inj e1).symm
  subst en
  obtain rfl := Option.some.inj (rt.symm.trans e2)
  have hm : ty ∈ (List.range 210).filter fun t => Tryd.prog.rowNamed t [101, 114, 114, 111, 114] := List.mem_filter.2 ⟨List.mem_range.2 (by rw [← size]; exact e3), e4⟩
  rw [oneRow] at hm
  obtain rfl := List.mem_singleton.1 hm
  have hh : typeHandle Tryd.prog 28 = .pointer (some ⟨1, 28, none⟩) := by kernel_rfl
  rw [hh] at e5
  unfold Err.Laid
  simpa using World.var?_cell et e5 0
noncomputable def laidWorld (os : Os) : World :=
  let w0 := World.holding Tryd.prog os ⟨#[], #[], []⟩
  { w0 with heap := w0.heap.modify 0 fun
      | .cells _ t frozen => .cells #[.iface 141 (.agg #[.pointer (some ⟨1, 28, none⟩)])] t frozen
      | o => o }
theorem laidWorld_met (os : Os) (args : Array Value) : laidMetH Tryd.prog Rows.linksPoolRow.laid ((laidWorld os).forCall (fun _ _ => 0) ⟨#[], args, []⟩).memory :=
  laidMetH_of_parts (laidMet_nil _ _) (by kernel_rfl)
set_option maxRecDepth 100000 in
theorem lifted (os : Os) (started : os.Started) (H : Type) (enc : TypeId × Value → H) :
    ReturnsInHanded {} Tryd.checked os 5 .any (fun w args => (Rows.linksPoolSpec.pre enc Tryd.prog Tryd.f5 [] false w args ∧ laidMetH Tryd.prog Rows.linksPoolRow.laid w) ∧ sizedMet enc Tryd.prog Tryd.f5 (OpenSpec.ofChange Rows.linksPoolSpec) false w args)
      (Rows.linksPoolSpec.post enc Tryd.prog Tryd.f5 false true false false) := by
  refine returnsInHanded_of_change_and (C := Tryd.checked) (X := fun w _ => laidMetH Tryd.prog Rows.linksPoolRow.laid w) (fun _ _ _ hh h => h.of_heap hh) own started (by kernel_rfl) Tryd.func5
    (ChangeSpec.witness_at (enc := enc) (C := Tryd.checked) (os := os) (X := fun w _ => laidMetH Tryd.prog Rows.linksPoolRow.laid w) false (laidWorld os) #[.slice none 0 0] 8 rfl (by kernel_rfl) (by kernel_rfl) (by kernel_rfl) (by kernel_rfl) (by kernel_rfl) (laidWorld_met os _)) ?_
  intro W base args ds gs before hval0 hW _ hsz0 hL _
  have hg := handle_of_laid hL
  have hsz : (DataW.weightsEach Tryd.prog (Tryd.f5.params.toList ++ Rows.linksPoolSpec.plain.varTypes Tryd.prog) (ds ++ gs)).all (· ≤ reachBytes) = true := hsz0
  clear hsz0
  have hval : ∀ (j : Nat) t v, Tryd.f5.params[j]? = some t → args[j]? = some v → Value.okWide Tryd.prog W .any base t v := hval0
  have hW' := hW
  obtain ⟨p, q, hA0, hV, rfl, hfz, hnd⟩ := hW
  have hA : DataW.TrodAll enc Tryd.prog W 0 (fun _ => true) true Tryd.f5.params.toList args.toList ds p := hA0
  rw [Tryd.params5] at hA hval hsz
  obtain ⟨v0, vs0, d0, ds0, p0, q0, hargs, rfl, rfl, h0, r0⟩ := trodAll_cons hA
  obtain ⟨rfl, rfl, rfl⟩ := trodAll_nil r0
  obtain rfl : args = #[v0] := by cases args; simp_all
  obtain ⟨rfl, rfl⟩ := trodVars_none hV
  have hlt : ∀ x ∈ (p0 ++ []) ++ [], x.block < W.heap.size := fun x hx => hW'.lt x hx
  obtain ⟨A0, c0, rows0, rfl, hl0, hc0, hr0, hg0, hw0⟩ := Law.open_rows Klg.Lg.cells Klg.Lg.Good (fun _ => rfl) (by decide) (mkLeg _ Tryd.underlying89) Tryd.underlying42 Tryd.underlying43 cellsLegs Tryd.underlying89 (by kernel_rfl) cellsLeg bytesLegs bytesLeg (hval 0 42 v0 rfl rfl) h0 hsz (j := 0) rfl rfl
  clear hA0 hval0
  refine (Klg.linksPool_any A0 rows0.length c0 rows0 W hg rfl (by omega) hr0 hg0 (fun r hr => by have := hw0 r hr; omega)).mono fun e W' ⟨he, hb⟩ => ?_
  subst he
  exact ⟨_, rfl, Law.post_law (tb := 4) hW' hb laid (by decide +kernel) (by intro n g t h; cases h) rfl Tryd.underlying4 rfl rfl rfl⟩
theorem over : Rows.linksPoolRow.holds Tryd.pinned (OpenSpec.ofChange Rows.linksPoolSpec) :=
  OpenClaim.holds_of_wide 5 Tryd.f5 rfl rfl rfl rfl rfl rfl rfl ⟨rfl, rfl, rfl, rfl, rfl⟩ rfl rfl rfl rfl rfl (by kernel_rfl) Tryd.func5 (by kernel_rfl)
    (of_decide_eq_true (by kernel_rfl)) (by unfold Func.isWrapper; first | (rw [if_pos (by decide +kernel)]; kernel_rfl) | (rw [if_neg (by decide +kernel)]; exact ⟨rfl, rfl⟩))
    (fun os started H enc _ => lifted os started H enc)
def card : Claim7 := Rows.linksPoolCard
theorem proved : Rows.LinksPoolCardSaid :=
  Claim7.holds_tied_plain_at .later [] [.handle] true (true, "bca298298b53e2c38a38c8f27bf36efb4eedf9b04f735f3e52898eea418083f8") true
    over (fun _ h => by cases h) (by kernel_rfl) (fun _ h => by cases h) linksPool_row_tie rfl ⟨rfl, rfl⟩ (by kernel_rfl) rfl
    (fun f fn hf hfn => by
      obtain rfl : f = 5 := Option.some.inj ((show Tryd.prog.funcNamed "custody/custodylaw23.LinksPool" = some 5 by kernel_rfl).symm.trans hf) |>.symm
      obtain rfl : fn = Tryd.f5 := (Option.some.inj (Tryd.func5.symm.trans hfn)).symm
      exact ⟨by kernel_rfl, fun j t ht => by
        rw [Tryd.params5] at ht
        rcases j with _ | j
        · simp at ht; subst ht; kernel_rfl
        · simp at ht⟩)
    (by kernel_rfl)
#print axioms proved
end linksPool
end Go.Proofs.YtgmanmbicoofgaaDoor
