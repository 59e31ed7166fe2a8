/- WireBack: the statement. -/
import Derived.Test.YthkhemcbkcoliaaBackM
import Derived.Test.YthkhemcbkcoliaaRow
import Derived.Test.YthkhemcbkcoliaaRows
namespace Go.Proofs.Ythkhemcbkcoliaa
set_option linter.unusedVariables false
namespace wireBack
open Go.ChangeShapes Go.WideShapes Go.ChangeAt Go.RowKit
theorem own : ownKnob Try.prog.godebug = none := by kernel_rfl
theorem laid : laidOutB Try.prog = true := by kernel_rfl
theorem cells : Try.prog.cellsOf 37 = 4 := by kernel_rfl
theorem bytes : Try.prog.bytesOf 37 = 40 := by kernel_rfl
theorem mk {H : Type} {enc : TypeId × Value → H} {W : World} (fs : Array Field) (hfs : Try.prog.underlying 37 = some (.struct fs)) (vs : Nat → Value)
    (h : ∀ j fd, fs[j]? = some fd → ∃ (n : Nat) (y : DataW H × List MemPlace), DataW.trod enc Try.prog W 0 (fun _ => true) true n fd.type [vs j] = some y ∧ ∀ m ∈ y.1.weights Try.prog fd.type, m ≤ 140737488351232) :
    ∃ p : Wire.Put, p.Good ∧ ∀ j, j < fs.size → (Wire.Put.cells p)[j]? = some (vs j) := by
  rw [Try.underlying37] at hfs
  injection hfs with hfs
  injection hfs with hfs
  subst hfs
  obtain ⟨n0, y0, h0, w0⟩ := h 0 _ rfl
  obtain ⟨n1, y1, h1, w1⟩ := h 1 _ rfl
  obtain ⟨n2, y2, h2, w2⟩ := h 2 _ rfl
  obtain ⟨n3, y3, h3, w3⟩ := h 3 _ rfl
  obtain ⟨a0, e0, _, g0⟩ := DataW.trod_int Try.underlying3 h0
  obtain ⟨a1, e1, _, g1⟩ := DataW.trod_int Try.underlying3 h1
  obtain ⟨a2, e2, _, g2⟩ := DataW.trod_int Try.underlying22 h2
  obtain ⟨s, e3, f3, g3⟩ := DataW.trod_string Try.underlying9 h3
  have hs : s.size ≤ 140737488351232 := by
    refine w3 s.size ?_
    rw [f3]
    simp only [DataW.weights]
    simp
  simp [Lit.wf, IntKind.min, IntKind.max, IntKind.signed, IntKind.bits] at g0 g1 g2
  have a2e : ((a2.toNat : Nat) : Int) = a2 := by omega
  refine ⟨⟨a0, a1, a2.toNat, s⟩, ⟨by unfold Wire.I64; simp only; omega, by unfold Wire.I64; simp only; omega, by unfold Wire.U64; simp only; omega, hs⟩, fun j hj => ?_⟩
  have hj4 : j = 0 ∨ j = 1 ∨ j = 2 ∨ j = 3 := by simp at hj; omega
  simp only [List.cons.injEq, and_true] at e0 e1 e2 e3
  rcases hj4 with rfl | rfl | rfl | rfl
  · rw [e0]; rfl
  · rw [e1]; rfl
  · rw [e2]; simp [Wire.Put.cells, a2e]
  · rw [e3]; rfl
set_option maxRecDepth 100000 in
theorem lifted (os : Os) (started : os.Started) (H : Type) (enc : TypeId × Value → H) :
    ReturnsInHanded {} Try.checked os 5 .any (Rows.wireBackSpec.pre6 enc Try.prog Try.f5 Rows.wireBackRow.domain false) (Rows.wireBackSpec.post enc Try.prog Try.f5 false true false false) := by
  refine returnsInHanded_of_change_sized (C := Try.checked) own started (by kernel_rfl) Try.func5
    (ChangeSpec.witness6 (enc := enc) (C := Try.checked) false ⟨#[], #[.slice none 0 0], []⟩ 8 (by kernel_rfl) (by kernel_rfl) (by kernel_rfl) (by kernel_rfl)) ?_
  intro W base args ds gs before hval0 hW _ hsz0 _
  have hsz : (DataW.weightsEach Try.prog (Try.f5.params.toList ++ Rows.wireBackSpec.plain.varTypes Try.prog) (ds ++ gs)).all (· ≤ reachBytes) = true := hsz0
  clear hsz0
  have hval : ∀ (j : Nat) t v, Try.f5.params[j]? = some t → args[j]? = some v → Value.okWide Try.prog W .any base t v := hval0
  have hW' := hW
  obtain ⟨p, q, hA0, hV, rfl, hfz, hnd⟩ := hW
  have hA : DataW.TrodAll enc Try.prog W 0 (fun _ => true) true Try.f5.params.toList args.toList ds p := hA0
  rw [Try.params5] at hA hval hsz
  obtain ⟨v0, vs0, d0, ds0, p0, q0, hargs, rfl, rfl, h0, r0⟩ := trodAll_cons hA
  obtain ⟨rfl, rfl, rfl⟩ := trodAll_nil r0
  obtain rfl : args = #[v0] := by cases args; simp_all
  obtain ⟨rfl, rfl⟩ := trodVars_none hV
  have hlt : ∀ x ∈ (p0 ++ []) ++ [], x.block < W.heap.size := fun x hx => hW'.lt x hx
  obtain ⟨A0, c0, ps, rfl, hc0, hr0, hg0, hn0⟩ := Law.open_recs Wire.Put.cells Wire.Put.Good (fun _ => rfl) (by decide) (mk _ Try.underlying37) Try.underlying31 Try.underlying37 (by kernel_rfl) cells bytes (hval 0 31 v0 rfl rfl) h0 (fun x hx => hlt x (by simp [hx])) hsz (j := 0) rfl rfl
  clear hA0 hval0
  refine (Wire.back_any A0 ps.length c0 ps W rfl hr0 hg0 hn0).mono fun e W' ⟨he, hb⟩ => ?_
  subst he
  exact ⟨_, rfl, Law.post_law (tb := 4) hW' hb laid (by decide +kernel) (by intro n g t h; cases h) rfl Try.underlying4 rfl rfl rfl⟩

theorem over : Rows.wireBackRow.holds Try.pinned (OpenSpec.ofChange Rows.wireBackSpec) :=
  OpenClaim.holds_of_wide 5 Try.f5 rfl rfl rfl rfl rfl rfl rfl ⟨rfl, rfl, rfl, rfl, rfl⟩ rfl rfl rfl rfl rfl (by kernel_rfl) Try.func5 (by kernel_rfl)
    (of_decide_eq_true (by kernel_rfl)) (by unfold Func.isWrapper; first | (rw [if_pos (by decide +kernel)]; kernel_rfl) | (rw [if_neg (by decide +kernel)]; exact ⟨rfl, rfl⟩))
    (fun os started H enc _ => lifted os started H enc)
theorem proved : Rows.WireBackSaid := over
#print axioms proved
end wireBack
end Go.Proofs.Ythkhemcbkcoliaa
