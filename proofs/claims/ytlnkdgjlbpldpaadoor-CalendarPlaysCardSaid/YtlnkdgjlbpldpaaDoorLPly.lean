/- CalendarPlays: two calendars of any free days answer, asked in turns, as the document does, errors too: for every two calendars and every row of questions; no condition but that errors.errorType is laid as the text lays it, which the card ties. -/
import Derived.Test.YtlnkdgjlbpldpaaDoorPly
import Derived.Test.YtlnkdgjlbpldpaaDoorDays
import Derived.Test.YtlnkdgjlbpldpaaDoorRow
import Derived.Test.YtlnkdgjlbpldpaaDoorRows
import Derived.Test.YtlnkdgjlbpldpaaDoorTie
import Derived.Test.YtlnkdgjlbpldpaaDoorCards
import Derived.ChangeVars
import Derived.JoinedOf
import Derived.LaidLaws
import Derived.LaidHandle
import Derived.Stop.Joined
import Derived.SevenTiedAt
namespace Go.Proofs.YtlnkdgjlbpldpaaDoor
set_option linter.unusedVariables false
namespace calendarPlays
open Go.ChangeShapes Go.WideShapes Go.ChangeAt Go.RowKit
theorem own : ownKnob Tryd.prog.godebug = none := by kernel_rfl
theorem laid : laidOutB Tryd.prog = true := by kernel_rfl
theorem cells : Tryd.prog.cellsOf 3 = 1 := by kernel_rfl
theorem bytes : Tryd.prog.bytesOf 3 = 8 := by kernel_rfl
theorem cellsB : Tryd.prog.cellsOf 4 = 1 := by kernel_rfl
theorem cellsD : Tryd.prog.cellsOf 52 = 8 := by kernel_rfl
theorem cellsA : Tryd.prog.cellsOf 49 = 7 := by kernel_rfl
theorem cellsS : Tryd.prog.cellsOf 50 = 1 := by kernel_rfl
theorem cellsK : Tryd.prog.cellsOf 60 = 4 := by kernel_rfl
theorem bytesK : Tryd.prog.bytesOf 60 = 32 := by kernel_rfl
theorem mkAsk {H : Type} {enc : TypeId × Value → H} {W : World} (fs : Array Field) (hfs : Tryd.prog.underlying 60 = some (.struct fs)) (vs : Nat → Value)
    (h : ∀ j fd, fs[j]? = some fd → ∃ (n : Nat) (y : DataW H × List MemPlace), DataW.trod enc Tryd.prog W 0 (fun _ => true) true n fd.type [vs j] = some y ∧ ∀ m ∈ y.1.weights Tryd.prog fd.type, m ≤ 140737488351232) :
    ∃ p : Cal.AskR, p.Good ∧ ∀ j, j < fs.size → (Cal.AskR.cells p)[j]? = some (vs j) := by
  rw [Tryd.underlying60] at hfs
  injection hfs with hfs
  injection hfs with hfs
  subst hfs
  obtain ⟨n0, y0, h0, w0⟩ := h 0 _ rfl
  obtain ⟨n1, y1, h1, w1⟩ := h 1 _ rfl
  obtain ⟨n2, y2, h2, w2⟩ := h 2 _ rfl
  obtain ⟨n3, y3, h3, w3⟩ := h 3 _ rfl
  obtain ⟨a0, e0, _, g0⟩ := DataW.trod_int Tryd.underlying3 h0
  obtain ⟨a1, e1, _, g1⟩ := DataW.trod_int Tryd.underlying3 h1
  obtain ⟨a2, e2, _, g2⟩ := DataW.trod_int Tryd.underlying3 h2
  obtain ⟨a3, e3, _, g3⟩ := DataW.trod_int Tryd.underlying3 h3
  simp [Lit.wf, IntKind.min, IntKind.max, IntKind.signed, IntKind.bits] at g0 g1 g2 g3
  refine ⟨⟨a0, a1, a2, a3⟩, ⟨by simp only; omega, by simp only; omega, by simp only; omega, by simp only; omega⟩, fun j hj => ?_⟩
  have hj4 : j = 0 ∨ j = 1 ∨ j = 2 ∨ j = 3 := by simp at hj; omega
  simp only [List.cons.injEq, and_true] at e0 e1 e2 e3
  rcases hj4 with rfl | rfl | rfl | rfl
  · rw [e0]; rfl
  · rw [e1]; rfl
  · rw [e2]; rfl
  · rw [e3]; rfl
theorem et : Tryd.prog.globalNamed "errors.errorType" = some 0 := by kernel_rfl
theorem rt : (Tryd.prog.cutTypes.find? (·.1 == "internal/reflectlite.rtype")).map (·.2) = some 114 := by kernel_rfl
theorem oneRow : ((List.range 159).filter fun t => Tryd.prog.rowNamed t [101, 114, 114, 111, 114]) = [25] := by kernel_rfl
theorem size : Tryd.prog.types.size = 159 := by kernel_rfl
theorem handle_of_laid {W : World} (h : laidMetH Tryd.prog Rows.calendarPlaysRow.laid W) : Err.Laid W := by
  have h' : laidMet Tryd.prog [] W ∧ handlesMet Tryd.prog Rows.calendarPlaysRow.laid W := h
  obtain ⟨name, u, ty, e1, e2, e3, e4, e5⟩ := h'.2 _ (List.mem_singleton.2 rfl)
  have en : name = [101, 114, 114, 111, 114] := (Option.some.inj e1).symm
  subst en
  obtain rfl := Option.some.inj (rt.symm.trans e2)
  have hm : ty ∈ (List.range 159).filter fun t => Tryd.prog.rowNamed t [101, 114, 114, 111, 114] := List.mem_filter.2 ⟨List.mem_range.2 (by rw [← size]; exact e3), e4⟩
  rw [oneRow] at hm
  obtain rfl := List.mem_singleton.1 hm
  have hh : typeHandle Tryd.prog 25 = .pointer (some ⟨1, 25, none⟩) := by kernel_rfl
  rw [hh] at e5
  unfold Err.Laid
  simpa using World.var?_cell et e5 0
noncomputable def laidWorld (os : Os) : World :=
  let w0 := World.holding Tryd.prog os ⟨#[], #[], []⟩
  { w0 with heap := w0.heap.modify 0 fun
      | .cells _ t frozen => .cells #[.iface 114 (.agg #[.pointer (some ⟨1, 25, none⟩)])] t frozen
      | o => o }
theorem laidWorld_met (os : Os) (args : Array Value) : laidMetH Tryd.prog Rows.calendarPlaysRow.laid ((laidWorld os).forCall (fun _ _ => 0) ⟨#[], args, []⟩).memory :=
  laidMetH_of_parts (laidMet_nil _ _) (by kernel_rfl)
set_option maxRecDepth 100000 in
theorem lifted (os : Os) (started : os.Started) (H : Type) (enc : TypeId × Value → H) :
    ReturnsInHanded {} Tryd.checked os 5 .any (fun w args => (Rows.calendarPlaysSpec.pre enc Tryd.prog Tryd.f5 [] false w args ∧ laidMetH Tryd.prog Rows.calendarPlaysRow.laid w) ∧ sizedMet enc Tryd.prog Tryd.f5 (OpenSpec.ofChange Rows.calendarPlaysSpec) false w args)
      (Rows.calendarPlaysSpec.post enc Tryd.prog Tryd.f5 false true false false) := by
  refine returnsInHanded_of_change_and (C := Tryd.checked) (X := fun w _ => laidMetH Tryd.prog Rows.calendarPlaysRow.laid w) (fun _ _ _ hh h => h.of_heap hh) own started (by kernel_rfl) Tryd.func5
    (ChangeSpec.witness_at (enc := enc) (C := Tryd.checked) (os := os) (X := fun w _ => laidMetH Tryd.prog Rows.calendarPlaysRow.laid w) false (laidWorld os) #[.agg #[.bool false, .bool false, .bool false, .bool false, .bool false, .bool false, .bool false, .slice none 0 0], .agg #[.bool false, .bool false, .bool false, .bool false, .bool false, .bool false, .bool false, .slice none 0 0], .slice none 0 0] 8 rfl (by kernel_rfl) (by kernel_rfl) (by kernel_rfl) (by kernel_rfl) (by kernel_rfl) (laidWorld_met os _)) ?_
  intro W base args ds gs before hval0 hW _ hsz0 hL _
  have hg := handle_of_laid hL
  have hsz : (DataW.weightsEach Tryd.prog (Tryd.f5.params.toList ++ Rows.calendarPlaysSpec.plain.varTypes Tryd.prog) (ds ++ gs)).all (· ≤ reachBytes) = true := hsz0
  clear hsz0
  have hval : ∀ (j : Nat) t v, Tryd.f5.params[j]? = some t → args[j]? = some v → Value.okWide Tryd.prog W .any base t v := hval0
  have hW' := hW
  obtain ⟨p, q, hA0, hV, rfl, hfz, hnd⟩ := hW
  have hA : DataW.TrodAll enc Tryd.prog W 0 (fun _ => true) true Tryd.f5.params.toList args.toList ds p := hA0
  rw [Tryd.params5] at hA hval hsz
  obtain ⟨v0, vs0, d0, ds0, p0, q0, hargs, rfl, rfl, h0, r0⟩ := trodAll_cons hA
  obtain ⟨v1, vs1, d1, ds1, p1, q1, rfl, rfl, rfl, h1, r1⟩ := trodAll_cons r0
  obtain ⟨v2, vs2, d2, ds2, p2, q2, rfl, rfl, rfl, h2, r2⟩ := trodAll_cons r1
  obtain ⟨rfl, rfl, rfl⟩ := trodAll_nil r2
  obtain rfl : args = #[v0, v1, v2] := by cases args; simp_all
  obtain ⟨rfl, rfl⟩ := trodVars_none hV
  have hlt : ∀ x ∈ (p0 ++ (p1 ++ (p2 ++ []))) ++ [], x.block < W.heap.size := fun x hx => hW'.lt x hx
  obtain ⟨b0_0, b0_1, b0_2, b0_3, b0_4, b0_5, b0_6, A0, n0, c0, xs0, rfl, hr0, hw0, hn0⟩ := Law.open_days (tb := 4) (te := 3) Tryd.underlying52 cellsD rfl rfl cellsA cellsS Tryd.underlying49 Tryd.underlying4 cellsB Tryd.underlying50 Tryd.underlying3 cells bytes (hval 0 52 v0 rfl rfl) h0 (fun x hx => hlt x (by simp [hx])) hsz (j := 0) rfl rfl
  obtain ⟨b1_0, b1_1, b1_2, b1_3, b1_4, b1_5, b1_6, A1, n1, c1, xs1, rfl, hr1, hw1, hn1⟩ := Law.open_days (tb := 4) (te := 3) Tryd.underlying52 cellsD rfl rfl cellsA cellsS Tryd.underlying49 Tryd.underlying4 cellsB Tryd.underlying50 Tryd.underlying3 cells bytes (hval 1 52 v1 rfl rfl) h1 (fun x hx => hlt x (by simp [hx])) hsz (j := 1) rfl rfl
  obtain ⟨A2, c2, ps2, rfl, hc2, hr2, hg2, hn2⟩ := Law.open_recs Cal.AskR.cells Cal.AskR.Good (fun _ => rfl) (by decide) (mkAsk _ Tryd.underlying60) Tryd.underlying53 Tryd.underlying60 (by kernel_rfl) cellsK bytesK (hval 2 53 v2 rfl rfl) h2 (fun x hx => hlt x (by simp [hx])) hsz (j := 2) rfl rfl
  clear hA0 hval0
  refine (Cal.plays_any b0_0 b0_1 b0_2 b0_3 b0_4 b0_5 b0_6 A0 n0 c0 xs0 b1_0 b1_1 b1_2 b1_3 b1_4 b1_5 b1_6 A1 n1 c1 xs1 A2 ps2.length c2 ps2 W hr0 hn0 hw0 hr1 hn1 hw1 rfl hr2 hg2 (by have := hn2; omega) hg).mono fun e W' ⟨he, hb⟩ => ?_
  subst he
  exact ⟨_, rfl, Law.post_law (tb := 4) hW' hb laid (by decide +kernel) (by intro n g t h; cases h) rfl Tryd.underlying4 rfl rfl rfl⟩
theorem over : Rows.calendarPlaysRow.holds Tryd.pinned (OpenSpec.ofChange Rows.calendarPlaysSpec) :=
  OpenClaim.holds_of_wide 5 Tryd.f5 rfl rfl rfl rfl rfl rfl rfl ⟨rfl, rfl, rfl, rfl, rfl⟩ rfl rfl rfl rfl rfl (by kernel_rfl) Tryd.func5 (by kernel_rfl)
    (of_decide_eq_true (by kernel_rfl)) (by unfold Func.isWrapper; first | (rw [if_pos (by decide +kernel)]; kernel_rfl) | (rw [if_neg (by decide +kernel)]; exact ⟨rfl, rfl⟩))
    (fun os started H enc _ => lifted os started H enc)
def card : Claim7 := Rows.calendarPlaysCard
theorem proved : Rows.CalendarPlaysCardSaid :=
  Claim7.holds_tied_plain_at .later [] [.handle] true (true, "72da0d20b5ee7edb03d997da58f7766ee57b657230b4429f70d85e5d7ef4a77c") true
    over (fun _ h => by cases h) (by kernel_rfl) (fun _ h => by cases h) calendarPlays_row_tie rfl ⟨rfl, rfl⟩ (by kernel_rfl) rfl
    (fun f fn hf hfn => by
      obtain rfl : f = 5 := Option.some.inj ((show Tryd.prog.funcNamed "custody/custodylaw03.CalendarPlays" = some 5 by kernel_rfl).symm.trans hf) |>.symm
      obtain rfl : fn = Tryd.f5 := (Option.some.inj (Tryd.func5.symm.trans hfn)).symm
      exact ⟨by kernel_rfl, fun j t ht => by
        rw [Tryd.params5] at ht
        rcases j with _ | _ | _ | j
        · simp at ht; subst ht; kernel_rfl
        · simp at ht; subst ht; kernel_rfl
        · simp at ht; subst ht; kernel_rfl
        · simp at ht⟩)
    (by kernel_rfl)
#print axioms proved
end calendarPlays
end Go.Proofs.YtlnkdgjlbpldpaaDoor
