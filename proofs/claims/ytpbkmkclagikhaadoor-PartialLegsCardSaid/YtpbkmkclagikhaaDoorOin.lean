/- A struct of numbers, by value, opened. -/
import Derived.Test.YtpbkmkclagikhaaDoorRow
import Derived.Lib.SmallJoins
namespace Go.Proofs.YtpbkmkclagikhaaDoor
set_option linter.unusedVariables false
namespace Law
open Go.ChangeShapes Go.WideShapes Go.ChangeAt Go.RowKit
theorem arrayN {α : Type} {cs : Array α} (h : cs.size = 6) : ∃ c0 c1 c2 c3 c4 c5, cs = #[c0, c1, c2, c3, c4, c5] := by
  obtain ⟨l⟩ := cs
  match l, h with
  | [c0, c1, c2, c3, c4, c5], _ => exact ⟨c0, c1, c2, c3, c4, c5, rfl⟩
section
variable {H : Type} {enc : TypeId × Value → H} {P : Program} {W : World} {r : Reach} {b0 : Nat} {t : TypeId} {f0 f1 f2 f3 f4 f5 : Field} {v : Value} {d : DataW H} {p : List MemPlace}
theorem open_intN (hs : P.underlying t = some (.struct #[f0, f1, f2, f3, f4, f5])) (hone : Go.Deep.oneCellFields P #[f0, f1, f2, f3, f4, f5] = true) (hC : P.cellsOf t = 6)
    (i0 : P.underlying f0.type = some (.int .i64)) (i1 : P.underlying f1.type = some (.int .i64)) (i2 : P.underlying f2.type = some (.int .i64)) (i3 : P.underlying f3.type = some (.int .i64)) (i4 : P.underlying f4.type = some (.int .i64)) (i5 : P.underlying f5.type = some (.int .i64))
    (hv : Value.okWide P W r b0 t v) (h : DataW.Trod enc P W 0 (fun _ => true) true t v d p) : ∃ a0 a1 a2 a3 a4 a5 : Int, v = .agg #[.int .i64 a0, .int .i64 a1, .int .i64 a2, .int .i64 a3, .int .i64 a4, .int .i64 a5] ∧ (Lit.int .i64 a0).wf = true ∧ (Lit.int .i64 a1).wf = true ∧ (Lit.int .i64 a2).wf = true ∧ (Lit.int .i64 a3).wf = true ∧ (Lit.int .i64 a4).wf = true ∧ (Lit.int .i64 a5).wf = true := by
  obtain ⟨cs, rfl, hsz⟩ := okWide_struct hs hv
  obtain ⟨c0, c1, c2, c3, c4, c5, rfl⟩ := arrayN (hsz.trans hC)
  obtain ⟨fuel, hf⟩ := h
  obtain ⟨xs, n, _, hx, hl, hlen, hfe⟩ := DataW.trod_struct hs hf
  obtain ⟨o0, k0⟩ := Go.Deep.hone_of hone 0 f0 rfl
  obtain ⟨o1, k1⟩ := Go.Deep.hone_of hone 1 f1 rfl
  obtain ⟨o2, k2⟩ := Go.Deep.hone_of hone 2 f2 rfl
  obtain ⟨o3, k3⟩ := Go.Deep.hone_of hone 3 f3 rfl
  obtain ⟨o4, k4⟩ := Go.Deep.hone_of hone 4 f4 rfl
  obtain ⟨o5, k5⟩ := Go.Deep.hone_of hone 5 f5 rfl
  match xs, hlen with
  | [y0, y1, y2, y3, y4, y5], _ =>
    have g0 := hfe 0 f0 rfl
    have g1 := hfe 1 f1 rfl
    have g2 := hfe 2 f2 rfl
    have g3 := hfe 3 f3 rfl
    have g4 := hfe 4 f4 rfl
    have g5 := hfe 5 f5 rfl
    simp [Value.cells, o0, k0] at g0
    simp [Value.cells, o1, k1] at g1
    simp [Value.cells, o2, k2] at g2
    simp [Value.cells, o3, k3] at g3
    simp [Value.cells, o4, k4] at g4
    simp [Value.cells, o5, k5] at g5
    obtain ⟨a0, e0, _, w0⟩ := DataW.trod_int i0 g0
    obtain ⟨a1, e1, _, w1⟩ := DataW.trod_int i1 g1
    obtain ⟨a2, e2, _, w2⟩ := DataW.trod_int i2 g2
    obtain ⟨a3, e3, _, w3⟩ := DataW.trod_int i3 g3
    obtain ⟨a4, e4, _, w4⟩ := DataW.trod_int i4 g4
    obtain ⟨a5, e5, _, w5⟩ := DataW.trod_int i5 g5
    simp at e0 e1 e2 e3 e4 e5
    subst e0 e1 e2 e3 e4 e5
    exact ⟨a0, a1, a2, a3, a4, a5, rfl, w0, w1, w2, w3, w4, w5⟩
end
end Law
end Go.Proofs.YtpbkmkclagikhaaDoor
