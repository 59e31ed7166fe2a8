/- An argument opened: a slice of slices of structs of one-cell fields. -/
import Derived.Test.YtgmanmbicoofgaaDoorOpen
namespace Go.Proofs.YtgmanmbicoofgaaDoor
set_option linter.unusedVariables false
namespace Law
open Go.ChangeShapes Go.WideShapes Go.ChangeAt Go.RowKit Go.Deep Mem
section
variable {H : Type} {enc : TypeId × Value → H} {P : Program} {W : World} {r : Reach} {b0 : Nat} {t t2 e : TypeId} {v : Value} {d : DataW H} {p : List MemPlace} {ts : List TypeId} {ds : List (DataW H)} {j : Nat}
/-- A row of records: read through its slice. -/
theorem open_row {α : Type} {fs : Array Field} (f : α → List Value) (Good : α → Prop) (hm : ∀ p, (f p).length = fs.size) (hfs : 0 < fs.size)
    (mk : ∀ vs : Nat → Value, (∀ j fd, fs[j]? = some fd → ∃ (n : Nat) (y : DataW H × List MemPlace), DataW.trod enc P W 0 (fun _ => true) true n fd.type [vs j] = some y) → ∃ p, Good p ∧ ∀ j, j < fs.size → (f p)[j]? = some (vs j))
    (ht : P.underlying t = some (.slice e)) (he : P.underlying e = some (.struct fs)) (hone : oneCellFields P fs = true) (hC : P.cellsOf e = fs.size) {bytes : Nat} (hby : P.bytesOf e = bytes) {fuel : Nat} {u : Value} {x : DataW H × List MemPlace}
    (h : DataW.trod enc P W 0 (fun _ => true) true fuel t [u] = some x) (hwt : ∀ m ∈ x.1.weights P t, m ≤ 140737488351232) :
    ∃ (ps : List α) (A : Option Addr) (c : Nat), u = .slice A ps.length c ∧ ps.length ≤ c ∧ ps.length * bytes ≤ 140737488351232 ∧ RdV W (fun k => k < W.heap.size) fs.size A ps.length (ps.flatMap f) ∧ (∀ p ∈ ps, Good p) := by
  rcases open_slice_fields ht he hone hC h with ⟨hcs, hx⟩ | ⟨a, len, cap, m, D, Pl, hcs, _, hl, hmx, hmm, hx, hi⟩
  · simp at hcs
    subst hcs
    exact ⟨[], none, 0, rfl, Nat.le_refl _, by simp, ⟨by simp, fun h => absurd h (by simp)⟩, by simp⟩
  · simp at hcs
    subst hcs
    simp only [if_true] at hmm
    have hrow : ∀ i, i < len → ∃ q : α, Good q ∧ ∀ j, j < fs.size → W.cell? (a.add (i * fs.size + j)) = (f q)[j]? := by
      intro i hil
      obtain ⟨ys, n, hD, hPl, hys, hfd⟩ := hi i (by omega)
      have hcell : ∀ j, j < fs.size → ∃ (u : Value), W.cell? (a.add (i * fs.size + j)) = some u := fun j hj => by
        obtain ⟨u, y, hc, _, _⟩ := hfd j fs[j] (Array.getElem?_eq_getElem hj)
        exact ⟨u, hc⟩
      obtain ⟨z, hz, hzc⟩ := mk (fun j => (W.cell? (a.add (i * fs.size + j))).getD undef) (fun j fd hj => by
        obtain ⟨u, y, hc, hyj, hty⟩ := hfd j fd hj
        exact ⟨n, y, by simp only [hc, Option.getD_some]; exact hty⟩)
      refine ⟨z, hz, fun j hj => ?_⟩
      obtain ⟨u, hu⟩ := hcell j hj
      rw [hzc j hj, hu]; rfl
    obtain ⟨ps, hpl, hps⟩ := choose_list len hrow
    subst hpl
    have hw := hwt ((ps.length + (m - ps.length)) * bytes) (by rw [hx]; simp [DataW.weights, ht, hby])
    have hlb : ps.length * bytes ≤ (ps.length + (m - ps.length)) * bytes := Nat.mul_le_mul_right _ (by omega)
    refine ⟨ps, some a, cap, rfl, hl, by omega, rdV_of f fs.size hm hfs ps (some a) (fun hp => ⟨a, rfl, ?_, fun i hi j hj => (hps i hi).2 j hj⟩), fun q hq => ?_⟩
    · have hc0 := (hps 0 hp).2 0 hfs
      obtain ⟨b, off, spot⟩ := a
      have hs : ∃ u, W.cell? ((⟨b, off, spot⟩ : Addr).add (0 * fs.size + 0)) = some u := by
        rw [hc0]
        exact ⟨_, List.getElem?_eq_getElem (by rw [hm]; exact hfs)⟩
      obtain ⟨u, hu⟩ := hs
      have := World.block_lt_of_cell? W _ hu
      rwa [block_of_add] at this
    · obtain ⟨i, hi, rfl⟩ := List.getElem_of_mem hq
      exact (hps i hi).1
theorem open_rows {α : Type} {fs : Array Field} (f : α → List Value) (Good : α → Prop) (hm : ∀ p, (f p).length = fs.size) (hfs : 0 < fs.size)
    (mk : ∀ vs : Nat → Value, (∀ j fd, fs[j]? = some fd → ∃ (n : Nat) (y : DataW H × List MemPlace), DataW.trod enc P W 0 (fun _ => true) true n fd.type [vs j] = some y) → ∃ p, Good p ∧ ∀ j, j < fs.size → (f p)[j]? = some (vs j))
    (ht : P.underlying t = some (.slice t2)) (ht2 : P.underlying t2 = some (.slice e)) (hc2 : P.cellsOf t2 = 1) (he : P.underlying e = some (.struct fs)) (hone : oneCellFields P fs = true) (hC : P.cellsOf e = fs.size) {b2 bytes : Nat} (hb2 : P.bytesOf t2 = b2) (hby : P.bytesOf e = bytes)
    (hv : Value.okWide P W r b0 t v) (h : DataW.Trod enc P W 0 (fun _ => true) true t v d p)
    (hsz : (DataW.weightsEach P ts ds).all (· ≤ reachBytes) = true) (htj : ts[j]? = some t) (hdj : ds[j]? = some d) :
    ∃ (A : Option Addr) (c : Nat) (rows : List (List α)), v = .slice A rows.length c ∧ rows.length ≤ c ∧ rows.length * b2 ≤ 140737488351232 ∧
      (∃ V : Nat → Value, RdV W (fun k => k < W.heap.size) 1 A rows.length ((List.range rows.length).map V) ∧
        ∀ i (hi : i < rows.length), ∃ Ai ci, V i = .slice Ai rows[i].length ci ∧ rows[i].length ≤ ci ∧ RdV W (fun k => k < W.heap.size) fs.size Ai rows[i].length (rows[i].flatMap f)) ∧
      (∀ q ∈ rows, ∀ p ∈ q, Good p) ∧ ∀ q ∈ rows, q.length * bytes ≤ 140737488351232 := by
  obtain ⟨a0, len0, cap0, rfl⟩ := okWide_slice ht hv
  obtain ⟨fuel, hf⟩ := h
  rcases open_slice ht hf with ⟨hcs, hx⟩ | ⟨a, len, cap, m, n, D, Pl, hcs, hb, hl, hmx, hmm, hx, hi⟩
  · simp [Value.cells] at hcs
    obtain ⟨rfl, rfl, rfl⟩ := hcs
    exact ⟨none, 0, [], rfl, Nat.le_refl _, by simp, ⟨fun _ => undef, ⟨by simp, fun h => absurd h (by simp)⟩, fun i hi => by simp at hi⟩, by simp, by simp⟩
  · simp [Value.cells] at hcs
    obtain ⟨rfl, rfl, rfl⟩ := hcs
    simp only [if_true] at hmm
    simp only [Prod.mk.injEq] at hx
    obtain ⟨rfl, rfl⟩ := hx
    have hreach := sized_slice hsz htj hdj ht
    rw [hb2] at hreach
    simp only [List.length_map, List.length_range, reachBytes] at hreach
    have hlb0 : len0 * b2 ≤ (len0 + (m - len0)) * b2 := Nat.mul_le_mul_right _ (by omega)
    have hrow : ∀ i, i < len0 → ∃ q : List α, (∀ p ∈ q, Good p) ∧ q.length * bytes ≤ 140737488351232 ∧ ∃ u, W.cell? (a.add i) = some u ∧ ∃ Ai ci, u = .slice Ai q.length ci ∧ q.length ≤ ci ∧ RdV W (fun k => k < W.heap.size) fs.size Ai q.length (q.flatMap f) := by
      intro i hil
      obtain ⟨cs', hc, ht'⟩ := hi i (by omega)
      rw [hc2] at hc
      obtain ⟨_, hcl, hat⟩ := World.cells?_some hc
      obtain ⟨u, rfl⟩ : ∃ u, cs' = [u] := by
        match cs', hcl with
        | [u], _ => exact ⟨u, rfl⟩
      have hwt : ∀ m' ∈ (D i).weights P t2, m' ≤ 140737488351232 := fun m' hm' => by
        have hw2 : m' ∈ (DataW.slice ((List.range len0).map D) ((List.range (m - len0)).map fun j => D (len0 + j))).weights P t := by
          simp only [DataW.weights, ht, List.mem_cons, List.mem_append]
          exact .inr (.inl (weights_all (List.mem_map.2 ⟨i, List.mem_range.2 hil, rfl⟩) m' hm'))
        have := List.all_eq_true.1 hsz _ (DataW.weights_mem_each htj hdj m' hw2)
        simp only [reachBytes] at this
        exact of_decide_eq_true this
      obtain ⟨ps, A, c, rfl, h1, h2, h3, h4⟩ := open_row f Good hm hfs mk ht2 he hone hC hby ht' hwt
      refine ⟨ps, h4, h2, _, ?_, A, c, rfl, h1, h3⟩
      have := hat 0 (by omega)
      rw [Go.Deep.add_add, Nat.mul_one, Nat.add_zero] at this
      exact this
    obtain ⟨rows, hpl, hps⟩ := choose_list len0 hrow
    subst hpl
    refine ⟨some a, cap0, rows, rfl, hl, by omega, ⟨fun i => (W.cell? (a.add i)).getD undef, ⟨by simp, fun hp => ⟨a, rfl, ?_, fun j u hu => ?_⟩⟩, fun i hi => ?_⟩, fun q hq => ?_, fun q hq => ?_⟩
    · obtain ⟨_, _, u, hu, _⟩ := hps 0 hp
      have := World.block_lt_of_cell? W _ hu
      rwa [block_of_add] at this
    · obtain ⟨hj, e_⟩ := List.getElem?_eq_some_iff.1 hu
      simp at hj
      obtain ⟨_, _, u', hu', _⟩ := hps j hj
      simp at e_
      rw [hu'] at e_ ⊢
      simp at e_
      rw [e_]
    · obtain ⟨_, _, u, hu, Ai, ci, e1, h2, h3⟩ := hps i hi
      refine ⟨Ai, ci, ?_, h2, h3⟩
      simp only [hu, Option.getD_some]
      exact e1
    · obtain ⟨i, hi, rfl⟩ := List.getElem_of_mem hq
      exact (hps i hi).1
    · obtain ⟨i, hi, rfl⟩ := List.getElem_of_mem hq
      exact (hps i hi).2.1
end
end Law
end Go.Proofs.YtgmanmbicoofgaaDoor
