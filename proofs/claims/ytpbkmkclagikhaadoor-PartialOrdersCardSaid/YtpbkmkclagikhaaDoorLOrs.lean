/- PartialOrders: two orders, whatever calls in turns, answer as the document has them; what Parts answers is new memory: for every eight numbers and every row of calls; no condition but that errors.errorType is laid as the text lays it, which the card ties. -/
import Derived.Test.YtpbkmkclagikhaaDoorOrs
import Derived.Test.YtpbkmkclagikhaaDoorArr
import Derived.Test.YtpbkmkclagikhaaDoorRow
import Derived.Test.YtpbkmkclagikhaaDoorRows
import Derived.Test.YtpbkmkclagikhaaDoorTie
import Derived.Test.YtpbkmkclagikhaaDoorCards
import Derived.LaidLaws
import Derived.LaidHandle
import Derived.Stop.Joined
import Derived.SevenTiedAt
import Derived.ChangeVars
import Derived.JoinedOf
import Derived.ProofKit
namespace Go.Proofs.YtpbkmkclagikhaaDoor
set_option linter.unusedVariables false
namespace partialOrders
open Go.ChangeShapes Go.WideShapes Go.ChangeAt Go.RowKit
theorem own : ownKnob Tryd.prog.godebug = none := by kernel_rfl
theorem laid : laidOutB Tryd.prog = true := by kernel_rfl
theorem four : Go.WideMaps.ArrKey Tryd.prog 22 2 4 := ⟨Tryd.underlying22, by kernel_rfl, by kernel_rfl, by kernel_rfl⟩
theorem cellsCall : Tryd.prog.cellsOf 53 = 4 := by kernel_rfl
theorem bytesCall : Tryd.prog.bytesOf 53 = 32 := by kernel_rfl
theorem mkCall {H : Type} {enc : TypeId × Value → H} {W : World} (fs : Array Field) (hfs : Tryd.prog.underlying 53 = some (.struct fs)) (vs : Nat → Value)
    (h : ∀ j fd, fs[j]? = some fd → ∃ (n : Nat) (y : DataW H × List MemPlace), DataW.trod enc Tryd.prog W 0 (fun _ => true) true n fd.type [vs j] = some y ∧ ∀ m ∈ y.1.weights Tryd.prog fd.type, m ≤ 140737488351232) :
    ∃ p : Prt.Call, p.Good ∧ ∀ j, j < fs.size → (Prt.Call.cells p)[j]? = some (vs j) := by
  rw [Tryd.underlying53] at hfs
  injection hfs with hfs
  injection hfs with hfs
  subst hfs
  obtain ⟨n0, y0, h0, w0⟩ := h 0 _ rfl
  obtain ⟨n1, y1, h1, w1⟩ := h 1 _ rfl
  obtain ⟨n2, y2, h2, w2⟩ := h 2 _ rfl
  obtain ⟨n3, y3, h3, w3⟩ := h 3 _ rfl
  obtain ⟨a0, e0, _, g0⟩ := DataW.trod_int Tryd.underlying3 h0
  obtain ⟨a1, e1, _, g1⟩ := DataW.trod_int Tryd.underlying2 h1
  obtain ⟨a2, e2, _, g2⟩ := DataW.trod_int Tryd.underlying2 h2
  obtain ⟨a3, e3, _⟩ := DataW.trod_bool Tryd.underlying4 h3
  simp [Lit.wf, IntKind.min, IntKind.max, IntKind.signed, IntKind.bits] at g0 g1 g2
  refine ⟨⟨a0, a1, a2, a3⟩, ⟨by simp only; omega, by simp only; omega, by simp only; omega⟩, fun j hj => ?_⟩
  have hj4 : j = 0 ∨ j = 1 ∨ j = 2 ∨ j = 3 := by simp at hj; omega
  simp only [List.cons.injEq, and_true] at e0 e1 e2 e3
  rcases hj4 with rfl | rfl | rfl | rfl
  · rw [e0]; rfl
  · rw [e1]; rfl
  · rw [e2]; rfl
  · rw [e3]; rfl
theorem et : Tryd.prog.globalNamed "errors.errorType" = some 0 := by kernel_rfl
theorem rt : (Tryd.prog.cutTypes.find? (·.1 == "internal/reflectlite.rtype")).map (·.2) = some 110 := by kernel_rfl
theorem oneRow : ((List.range 176).filter fun t => Tryd.prog.rowNamed t [101, 114, 114, 111, 114]) = [26] := by kernel_rfl
theorem size : Tryd.prog.types.size = 176 := by kernel_rfl
theorem handle_of_laid {W : World} (h : laidMetH Tryd.prog Rows.partialOrdersRow.laid W) : Err.Laid W := by
  have h' : laidMet Tryd.prog [] W ∧ handlesMet Tryd.prog Rows.partialOrdersRow.laid W := h
  obtain ⟨name, u, ty, e1, e2, e3, e4, e5⟩ := h'.2 _ (List.mem_singleton.2 rfl)
  have en : name = [101, 114, 114, 111, 114] := (Option.some.inj e1).symm
  subst en
  obtain rfl := Option.some.inj (rt.symm.trans e2)
  have hm : ty ∈ (List.range 176).filter fun t => Tryd.prog.rowNamed t [101, 114, 114, 111, 114] := List.mem_filter.2 ⟨List.mem_range.2 (by rw [← size]; exact e3), e4⟩
  rw [oneRow] at hm
  obtain rfl := List.mem_singleton.1 hm
  have hh : typeHandle Tryd.prog 26 = .pointer (some ⟨3, 26, none⟩) := by kernel_rfl
  rw [hh] at e5
  unfold Err.Laid
  simpa using World.var?_cell et e5 0
noncomputable def laidWorld (os : Os) : World :=
  let w0 := World.holding Tryd.prog os ⟨#[], #[], []⟩
  { w0 with heap := w0.heap.modify 0 fun
      | .cells _ t frozen => .cells #[.iface 110 (.agg #[.pointer (some ⟨3, 26, none⟩)])] t frozen
      | o => o }
theorem laidWorld_met (os : Os) (args : Array Value) : laidMetH Tryd.prog Rows.partialOrdersRow.laid ((laidWorld os).forCall (fun _ _ => 0) ⟨#[], args, []⟩).memory :=
  laidMetH_of_parts (laidMet_nil _ _) (by kernel_rfl)
set_option maxRecDepth 100000 in
theorem lifted (os : Os) (started : os.Started) (H : Type) (enc : TypeId × Value → H) :
    ReturnsInHanded {} Tryd.checked os 6 .any (fun w args => (Rows.partialOrdersSpec.pre enc Tryd.prog Tryd.f6 [] false w args ∧ laidMetH Tryd.prog Rows.partialOrdersRow.laid w) ∧ sizedMet enc Tryd.prog Tryd.f6 (OpenSpec.ofChange Rows.partialOrdersSpec) false w args)
      (Rows.partialOrdersSpec.post enc Tryd.prog Tryd.f6 false true false false) := by
  refine returnsInHanded_of_change_and (C := Tryd.checked) (X := fun w _ => laidMetH Tryd.prog Rows.partialOrdersRow.laid w) (fun _ _ _ hh h => h.of_heap hh) own started (by kernel_rfl) Tryd.func6
    (ChangeSpec.witness_at (enc := enc) (C := Tryd.checked) (os := os) (X := fun w _ => laidMetH Tryd.prog Rows.partialOrdersRow.laid w) false (laidWorld os) #[.agg #[.int .i64 0, .int .i64 0, .int .i64 0, .int .i64 0], .agg #[.int .i64 0, .int .i64 0, .int .i64 0, .int .i64 0], .slice none 0 0] 8 rfl (by kernel_rfl) (by kernel_rfl) (by kernel_rfl) (by kernel_rfl) (by kernel_rfl) (laidWorld_met os _)) ?_
  intro W base args ds gs before hval0 hW _ hsz0 hL _
  have hg := handle_of_laid hL
  have hsz : (DataW.weightsEach Tryd.prog (Tryd.f6.params.toList ++ Rows.partialOrdersSpec.plain.varTypes Tryd.prog) (ds ++ gs)).all (· ≤ reachBytes) = true := hsz0
  clear hsz0
  have hval : ∀ (j : Nat) t v, Tryd.f6.params[j]? = some t → args[j]? = some v → Value.okWide Tryd.prog W .any base t v := hval0
  have hW' := hW
  obtain ⟨p, q, hA0, hV, rfl, hfz, hnd⟩ := hW
  have hA : DataW.TrodAll enc Tryd.prog W 0 (fun _ => true) true Tryd.f6.params.toList args.toList ds p := hA0
  rw [Tryd.params6] at hA hval hsz
  obtain ⟨v0, vs0, d0, ds0, p0, q0, hargs, rfl, rfl, h0, r0⟩ := trodAll_cons hA
  obtain ⟨v1, vs1, d1, ds1, p1, q1, rfl, rfl, rfl, h1, r1⟩ := trodAll_cons r0
  obtain ⟨v2, vs2, d2, ds2, p2, q2, rfl, rfl, rfl, h2, r2⟩ := trodAll_cons r1
  obtain ⟨rfl, rfl, rfl⟩ := trodAll_nil r2
  obtain rfl : args = #[v0, v1, v2] := by cases args; simp_all
  obtain ⟨rfl, rfl⟩ := trodVars_none hV
  have hlt : ∀ x ∈ (p0 ++ (p1 ++ (p2 ++ []))) ++ [], x.block < W.heap.size := fun x hx => hW'.lt x hx
  obtain ⟨a0_0, a0_1, a0_2, a0_3, rfl, w0_0, w0_1, w0_2, w0_3⟩ := Law.open_four four Tryd.underlying2 (hval 0 22 v0 rfl rfl) h0
  obtain ⟨a1_0, a1_1, a1_2, a1_3, rfl, w1_0, w1_1, w1_2, w1_3⟩ := Law.open_four four Tryd.underlying2 (hval 1 22 v1 rfl rfl) h1
  obtain ⟨A2, c2, ps2, rfl, hc2, hr2, hg2, hn2⟩ := Law.open_recs Prt.Call.cells Prt.Call.Good (fun _ => rfl) (by decide) (mkCall _ Tryd.underlying53) Tryd.underlying43 Tryd.underlying53 (by kernel_rfl) cellsCall bytesCall (hval 2 43 v2 rfl rfl) h2 (fun x hx => hlt x (by simp [hx])) hsz (j := 2) rfl rfl
  clear hA0 hval0
  refine (Prt.orders_any a0_0 a0_1 a0_2 a0_3 a1_0 a1_1 a1_2 a1_3 A2 c2 ps2 W hg (Law.wf_i64 w0_0).2 (Law.wf_i64 w0_1).2 (Law.wf_i64 w0_2).2 (Law.wf_i64 w0_3).2 (Law.wf_i64 w1_0).2 (Law.wf_i64 w1_1).2 (Law.wf_i64 w1_2).2 (Law.wf_i64 w1_3).2 hr2 hg2 (by omega)).mono fun e W' ⟨he, hb⟩ => ?_
  subst he
  exact ⟨_, rfl, Law.post_law (tb := 4) hW' hb laid (by decide +kernel) (by intro n g t h; cases h) rfl Tryd.underlying4 rfl rfl rfl⟩
theorem over : Rows.partialOrdersRow.holds Tryd.pinned (OpenSpec.ofChange Rows.partialOrdersSpec) :=
  OpenClaim.holds_of_wide 6 Tryd.f6 rfl rfl rfl rfl rfl rfl rfl ⟨rfl, rfl, rfl, rfl, rfl⟩ rfl rfl rfl rfl rfl (by kernel_rfl) Tryd.func6 (by kernel_rfl)
    (of_decide_eq_true (by kernel_rfl)) (by unfold Func.isWrapper; first | (rw [if_pos (by decide +kernel)]; kernel_rfl) | (rw [if_neg (by decide +kernel)]; exact ⟨rfl, rfl⟩))
    (fun os started H enc _ => lifted os started H enc)
def card : Claim7 := Rows.partialOrdersCard
theorem proved : Rows.PartialOrdersCardSaid :=
  Claim7.holds_tied_plain_at .later [] [.handle] true (true, "002054f3f7f5d9079f9015d1a21c33c573b973433f5cdbd21163b9f1bef072c8") true
    over (fun _ h => by cases h) (by kernel_rfl) (fun _ h => by cases h) partialOrders_row_tie rfl ⟨rfl, rfl⟩ (by kernel_rfl) rfl
    (fun f fn hf hfn => by
      obtain rfl : f = 6 := Option.some.inj ((show Tryd.prog.funcNamed "custody/custodylaw26.PartialOrders" = some 6 by kernel_rfl).symm.trans hf) |>.symm
      obtain rfl : fn = Tryd.f6 := (Option.some.inj (Tryd.func6.symm.trans hfn)).symm
      exact ⟨by kernel_rfl, fun j t ht => by
        rw [Tryd.params6] at ht
        rcases j with _ | _ | _ | j
        · simp at ht; subst ht; kernel_rfl
        · simp at ht; subst ht; kernel_rfl
        · simp at ht; subst ht; kernel_rfl
        · simp at ht⟩)
    (by kernel_rfl)
#print axioms proved
end partialOrders
end Go.Proofs.YtpbkmkclagikhaaDoor
