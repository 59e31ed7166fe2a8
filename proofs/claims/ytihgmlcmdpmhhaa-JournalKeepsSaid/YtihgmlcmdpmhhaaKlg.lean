/- JournalKeeps: the legs among the arguments. -/
import Derived.Test.YtihgmlcmdpmhhaaKin
import Derived.Test.YtihgmlcmdpmhhaaOpR
import Derived.Test.YtihgmlcmdpmhhaaJsr
namespace Go.Proofs.Ytihgmlcmdpmhhaa
set_option linter.unusedVariables false
set_option linter.unusedSimpArgs false
namespace Jrn
open Go.RowKit Mem Apn Wire Aps
open Go.ChangeShapes Go.WideShapes Go.ChangeAt
def legCells (p : Value × Lg) : List Value := [p.1, .int .i64 p.2.syncs, .int .i64 p.2.inn, .int .i64 p.2.keep]
def LegIs (W : World) (p : Value × Lg) : Prop := LgGood p.2 ∧ ∃ a c, p.1 = .slice a p.2.recs.length c ∧ p.2.recs.length ≤ c ∧ RdR W (fun k => k < W.heap.size) a p.2.recs.length p.2.recs
theorem leg_len (p : Value × Lg) : (legCells p).length = 4 := rfl
theorem mkLeg {H : Type} {enc : TypeId × Value → H} {W : World} (fs : Array Field) (hfs : Try.prog.underlying 47 = some (.struct fs)) (vs : Nat → Value)
    (h : ∀ j fd, fs[j]? = some fd → ∃ (n : Nat) (y : DataW H × List MemPlace), DataW.trod enc Try.prog W 0 (fun _ => true) true n fd.type [vs j] = some y ∧ ∀ m ∈ y.1.weights Try.prog fd.type, m ≤ 140737488351232) :
    ∃ p : Value × Lg, LegIs W p ∧ ∀ j, j < fs.size → (legCells p)[j]? = some (vs j) := by
  rw [Try.underlying47] at hfs
  injection hfs with hfs
  injection hfs with hfs
  subst hfs
  obtain ⟨n0, y0, h0, w0⟩ := h 0 _ rfl
  obtain ⟨n1, y1, h1, w1⟩ := h 1 _ rfl
  obtain ⟨n2, y2, h2, w2⟩ := h 2 _ rfl
  obtain ⟨n3, y3, h3, w3⟩ := h 3 _ rfl
  obtain ⟨A, c, rows, e0, hc, hn, hV⟩ := Law.open_cells (fun (xs : List Int) (u : Value) => (∃ A c, u = .slice A xs.length c ∧ xs.length ≤ c ∧ RdN W (fun k => k < W.heap.size) .u8 A xs.length xs) ∧ xs.length * 1 ≤ 140737488351232 ∧ ∀ y ∈ xs, (Lit.int .u8 y).wf = true)
    (fun fuel u x hx hw => Law.open_rowN Try.underlying23 Try.underlying5 (show Try.prog.cellsOf 5 = 1 by kernel_rfl) (show Try.prog.bytesOf 5 = 1 by kernel_rfl) hx hw) Try.underlying22 (show Try.prog.cellsOf 23 = 1 by kernel_rfl) (show Try.prog.bytesOf 23 = 24 by kernel_rfl) h0 w0
  obtain ⟨a1, e1, _, g1⟩ := DataW.trod_int Try.underlying3 h1
  obtain ⟨a2, e2, _, g2⟩ := DataW.trod_int Try.underlying3 h2
  obtain ⟨a3, e3, _, g3⟩ := DataW.trod_int Try.underlying3 h3
  simp only [List.cons.injEq, and_true] at e1 e2 e3
  refine ⟨(.slice A rows.length c, ⟨rows, a1, a2, a3⟩), ⟨⟨i64_wf g1, i64_wf g2, i64_wf g3, by simp only; omega, rows_byt hV⟩, A, c, rfl, hc, rdr_of hV⟩, fun j hj => ?_⟩
  have hj4 : j = 0 ∨ j = 1 ∨ j = 2 ∨ j = 3 := by simp at hj; omega
  rcases hj4 with rfl | rfl | rfl | rfl
  · rw [e0]; rfl
  · rw [e1]; rfl
  · rw [e2]; rfl
  · rw [e3]; rfl
theorem rdl_of {W : World} {A : Option Addr} {ps : List (Value × Lg)} (hr : RdV W (fun k => k < W.heap.size) 4 A ps.length (ps.flatMap legCells)) (hg : ∀ p ∈ ps, LegIs W p) : RdL W (fun k => k < W.heap.size) A ps.length (ps.map (·.2)) := by
  refine ⟨by simp, fun k hk => ?_⟩
  obtain ⟨ad, e, hb, hc⟩ := hr.2 (by omega)
  obtain ⟨hgd, a, c, ev, hcl, hrr⟩ := hg ps[k] (List.getElem_mem hk)
  have c0 := hc (k * 4) _ (by rw [← Nat.add_zero (k * 4), Law.flat_get legCells 4 leg_len ps k 0 hk (by omega)]; rfl)
  have c1 := hc (k * 4 + 1) _ (by rw [Law.flat_get legCells 4 leg_len ps k 1 hk (by omega)]; rfl)
  have c2 := hc (k * 4 + 2) _ (by rw [Law.flat_get legCells 4 leg_len ps k 2 hk (by omega)]; rfl)
  have c3 := hc (k * 4 + 3) _ (by rw [Law.flat_get legCells 4 leg_len ps k 3 hk (by omega)]; rfl)
  rw [← add_of_add] at c1 c2 c3
  rw [ev] at c0
  exact ⟨ad, a, c, ps[k].2, e, by rw [List.getElem?_map, List.getElem?_eq_getElem hk]; rfl, by rw [block_of_add]; exact hb, c0, c1, c2, c3, hcl, hrr⟩
theorem legs_good {W : World} {ps : List (Value × Lg)} (hg : ∀ p ∈ ps, LegIs W p) : ∀ l ∈ ps.map (·.2), LgGood l := by
  intro l hl
  obtain ⟨p, hp, rfl⟩ := List.mem_map.1 hl
  exact (hg p hp).1
end Jrn
end Go.Proofs.Ytihgmlcmdpmhhaa
