/- Rows of bytes that came in, read. -/
import Derived.Test.YtihgmlcmdpmhhaaSre
namespace Go.Proofs.Ytihgmlcmdpmhhaa
set_option linter.unusedVariables false
namespace Jrn
open Go.RowKit Mem Apn Wire
theorem byt_wf {l : List Int} (h : ∀ x ∈ l, (Lit.int .u8 x).wf = true) : Byt l := fun c hc => by
  have := h c hc
  simp [Lit.wf, IntKind.min, IntKind.max, IntKind.signed, IntKind.bits] at this
  omega
theorem i64_wf {a : Int} (h : (Lit.int .i64 a).wf = true) : I64 a := by
  simp [Lit.wf, IntKind.min, IntKind.max, IntKind.signed, IntKind.bits] at h
  unfold I64
  omega
theorem rdr_of {W : World} {ok : Nat → Prop} {A : Option Addr} {R : List (List Int)}
    (h : ∃ V : Nat → Value, RdV W ok 1 A R.length ((List.range R.length).map V) ∧ ∀ i (hi : i < R.length), (∃ A c, V i = .slice A R[i].length c ∧ R[i].length ≤ c ∧ RdN W ok .u8 A R[i].length R[i]) ∧ R[i].length * 1 ≤ 140737488351232 ∧ ∀ y ∈ R[i], (Lit.int .u8 y).wf = true) : RdR W ok A R.length R := by
  obtain ⟨V, h1, h2⟩ := h
  refine ⟨rfl, V, h1, fun j hj => ?_⟩
  obtain ⟨⟨a, c, e, hc, hr⟩, _⟩ := h2 j hj
  have ej : R.getD j [] = R[j] := by rw [List.getD_eq_getElem?_getD, List.getElem?_eq_getElem hj]; rfl
  rw [ej]
  exact ⟨a, c, e, hc, hr⟩
theorem rows_byt {W : World} {ok : Nat → Prop} {A : Option Addr} {R : List (List Int)}
    (h : ∃ V : Nat → Value, RdV W ok 1 A R.length ((List.range R.length).map V) ∧ ∀ i (hi : i < R.length), (∃ A c, V i = .slice A R[i].length c ∧ R[i].length ≤ c ∧ RdN W ok .u8 A R[i].length R[i]) ∧ R[i].length * 1 ≤ 140737488351232 ∧ ∀ y ∈ R[i], (Lit.int .u8 y).wf = true) : ∀ r ∈ R, Byt r ∧ r.length ≤ 140737488351232 := by
  obtain ⟨V, h1, h2⟩ := h
  intro r hr
  obtain ⟨i, hi, rfl⟩ := List.getElem_of_mem hr
  obtain ⟨_, h3, h4⟩ := h2 i hi
  exact ⟨byt_wf h4, by omega⟩
end Jrn
end Go.Proofs.Ytihgmlcmdpmhhaa
