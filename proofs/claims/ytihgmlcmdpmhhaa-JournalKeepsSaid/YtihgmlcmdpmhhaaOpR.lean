/- Arguments opened: a slice of things of one cell each, whatever they are; rows of numbers. -/
import Derived.Test.YtihgmlcmdpmhhaaOpen
namespace Go.Proofs.Ytihgmlcmdpmhhaa
set_option linter.unusedVariables false
namespace Law
open Go.ChangeShapes Go.WideShapes Go.ChangeAt Go.RowKit Go.Deep Mem
section
variable {H : Type} {enc : TypeId × Value → H} {P : Program} {W : World} {r : Reach} {b0 : Nat} {t t2 e : TypeId} {v : Value} {d : DataW H} {p : List MemPlace} {ts : List TypeId} {ds : List (DataW H)} {j : Nat}
/-- A row of numbers: read through its slice. -/
theorem open_rowN {k : IntKind} {bytes : Nat} (ht : P.underlying t = some (.slice e)) (he : P.underlying e = some (.int k)) (hc : P.cellsOf e = 1) (hby : P.bytesOf e = bytes) {fuel : Nat} {u : Value} {x : DataW H × List MemPlace}
    (h : DataW.trod enc P W 0 (fun _ => true) true fuel t [u] = some x) (hwt : ∀ m ∈ x.1.weights P t, m ≤ 140737488351232) :
    ∃ (xs : List Int), (∃ A c, u = .slice A xs.length c ∧ xs.length ≤ c ∧ RdN W (fun k => k < W.heap.size) k A xs.length xs) ∧ xs.length * bytes ≤ 140737488351232 ∧ ∀ y ∈ xs, (Lit.int k y).wf = true := by
  rcases open_ints ht he hc h with ⟨hcs, hx⟩ | ⟨a, len, cap, zs, hcs, _, hl, hm, hz, hx, hcell, hwz⟩
  · simp at hcs
    subst hcs
    exact ⟨[], ⟨none, 0, rfl, Nat.le_refl _, ⟨by simp [nums], fun h => absurd h (by simp)⟩⟩, by simp, by simp⟩
  · simp at hcs
    subst hcs
    simp only [if_true] at hz
    have hw := hwt ((len + (zs.length - len)) * bytes) (by rw [hx]; simp [DataW.weights, ht, hby, lits]; left; rw [Nat.min_eq_left (by omega)])
    have hlb : len * bytes ≤ (len + (zs.length - len)) * bytes := Nat.mul_le_mul_right _ (by omega)
    have hln : (zs.take len).length = len := by rw [List.length_take]; omega
    refine ⟨zs.take len, ⟨some a, cap, by rw [hln], by rw [hln]; exact hl, ?_⟩, by rw [hln]; omega, fun y hy => hwz y (List.mem_of_mem_take hy)⟩
    rw [hln]
    refine ⟨by simp [nums]; omega, fun hp => ⟨a, rfl, ?_, fun j u hu => ?_⟩⟩
    · have hc0 := hcell 0 (by omega)
      have := World.block_lt_of_cell? W _ hc0
      rwa [block_of_add] at this
    · simp only [nums, List.getElem?_map, Option.map_eq_some_iff] at hu
      obtain ⟨y, hy, rfl⟩ := hu
      rw [List.getElem?_take] at hy
      split at hy
      · rename_i hjl
        rw [hcell j (by omega), List.getD_eq_getElem?_getD, hy]; rfl
      · cases hy
theorem open_cells {α : Type} (Good : α → Value → Prop)
    (inner : ∀ (fuel : Nat) (u : Value) (x : DataW H × List MemPlace), DataW.trod enc P W 0 (fun _ => true) true fuel t2 [u] = some x → (∀ m ∈ x.1.weights P t2, m ≤ 140737488351232) → ∃ q : α, Good q u)
    (ht : P.underlying t = some (.slice t2)) (hc2 : P.cellsOf t2 = 1) {b2 : Nat} (hb2 : P.bytesOf t2 = b2) {fuel : Nat} {u : Value} {x : DataW H × List MemPlace}
    (hf : DataW.trod enc P W 0 (fun _ => true) true fuel t [u] = some x) (hwt : ∀ m ∈ x.1.weights P t, m ≤ 140737488351232) :
    ∃ (A : Option Addr) (c : Nat) (rows : List α), u = .slice A rows.length c ∧ rows.length ≤ c ∧ rows.length * b2 ≤ 140737488351232 ∧
      (∃ V : Nat → Value, RdV W (fun k => k < W.heap.size) 1 A rows.length ((List.range rows.length).map V) ∧ ∀ i (hi : i < rows.length), Good rows[i] (V i)) := by
  rcases open_slice ht hf with ⟨hcs, hx⟩ | ⟨a, len, cap, m, n, D, Pl, hcs, hb, hl, hmx, hmm, hx, hi⟩
  · simp at hcs
    subst hcs
    exact ⟨none, 0, [], rfl, Nat.le_refl _, by simp, ⟨fun _ => undef, ⟨by simp, fun h => absurd h (by simp)⟩, fun i hi => by simp at hi⟩⟩
  · simp at hcs
    subst hcs
    simp only [if_true] at hmm
    subst hx
    have hreach := hwt ((len + (m - len)) * b2) (by simp [DataW.weights, ht, hb2])
    have hlb0 : len * b2 ≤ (len + (m - len)) * b2 := Nat.mul_le_mul_right _ (by omega)
    have hrow : ∀ i, i < len → ∃ q : α, ∃ u, W.cell? (a.add i) = some u ∧ Good q u := by
      intro i hil
      obtain ⟨cs', hc, ht'⟩ := hi i (by omega)
      rw [hc2] at hc
      obtain ⟨_, hcl, hat⟩ := World.cells?_some hc
      obtain ⟨u, rfl⟩ : ∃ u, cs' = [u] := by
        match cs', hcl with
        | [u], _ => exact ⟨u, rfl⟩
      have hwt' : ∀ m' ∈ (D i).weights P t2, m' ≤ 140737488351232 := fun m' hm' => by
        refine hwt m' ?_
        simp only [DataW.weights, ht, List.mem_cons, List.mem_append]
        exact .inr (.inl (weights_all (List.mem_map.2 ⟨i, List.mem_range.2 hil, rfl⟩) m' hm'))
      obtain ⟨q, hq⟩ := inner _ u _ ht' hwt'
      refine ⟨q, u, ?_, hq⟩
      have := hat 0 (by omega)
      rw [Go.Deep.add_add, Nat.mul_one, Nat.add_zero] at this
      exact this
    obtain ⟨rows, hpl, hps⟩ := choose_list len hrow
    subst hpl
    refine ⟨some a, cap, rows, rfl, hl, by omega, ⟨fun i => (W.cell? (a.add i)).getD undef, ⟨by simp, fun hp => ⟨a, rfl, ?_, fun j u hu => ?_⟩⟩, fun i hi => ?_⟩⟩
    · obtain ⟨u, hu, _⟩ := hps 0 hp
      have := World.block_lt_of_cell? W _ hu
      rwa [block_of_add] at this
    · obtain ⟨hj, e_⟩ := List.getElem?_eq_some_iff.1 hu
      simp at hj
      obtain ⟨u', hu', _⟩ := hps j hj
      simp at e_
      rw [hu'] at e_ ⊢
      simp at e_
      rw [e_]
    · obtain ⟨u, hu, hg⟩ := hps i hi
      simp only [hu, Option.getD_some]
      exact hg
/-- The weights of one argument. -/
theorem weights_arg (hsz : (DataW.weightsEach P ts ds).all (· ≤ reachBytes) = true) (htj : ts[j]? = some t) (hdj : ds[j]? = some d) : ∀ m ∈ d.weights P t, m ≤ 140737488351232 := fun m hm => by
  have := List.all_eq_true.1 hsz _ (DataW.weights_mem_each htj hdj m hm)
  simp only [reachBytes] at this
  exact of_decide_eq_true this
/-- A slice of slices of numbers among the arguments. -/
theorem open_rowsN {k : IntKind} {bytes b2 : Nat} (ht : P.underlying t = some (.slice t2)) (ht2 : P.underlying t2 = some (.slice e)) (he : P.underlying e = some (.int k)) (hc2 : P.cellsOf t2 = 1) (hb2 : P.bytesOf t2 = b2) (hc : P.cellsOf e = 1) (hby : P.bytesOf e = bytes)
    (hv : Value.okWide P W r b0 t v) (h : DataW.Trod enc P W 0 (fun _ => true) true t v d p) (hsz : (DataW.weightsEach P ts ds).all (· ≤ reachBytes) = true) (htj : ts[j]? = some t) (hdj : ds[j]? = some d) :
    ∃ (A : Option Addr) (c : Nat) (rows : List (List Int)), v = .slice A rows.length c ∧ rows.length ≤ c ∧ rows.length * b2 ≤ 140737488351232 ∧
      (∃ V : Nat → Value, RdV W (fun k => k < W.heap.size) 1 A rows.length ((List.range rows.length).map V) ∧ ∀ i (hi : i < rows.length), (∃ A c, V i = .slice A rows[i].length c ∧ rows[i].length ≤ c ∧ RdN W (fun k => k < W.heap.size) k A rows[i].length rows[i]) ∧ rows[i].length * bytes ≤ 140737488351232 ∧ ∀ y ∈ rows[i], (Lit.int k y).wf = true) := by
  obtain ⟨a0, len0, cap0, rfl⟩ := okWide_slice ht hv
  obtain ⟨fuel, hf⟩ := h
  have hf' : DataW.trod enc P W 0 (fun _ => true) true fuel t [.slice a0 len0 cap0] = some (d, p) := hf
  exact open_cells (fun (xs : List Int) (u : Value) => (∃ A c, u = .slice A xs.length c ∧ xs.length ≤ c ∧ RdN W (fun k => k < W.heap.size) k A xs.length xs) ∧ xs.length * bytes ≤ 140737488351232 ∧ ∀ y ∈ xs, (Lit.int k y).wf = true)
    (fun fuel u x hx hw => open_rowN ht2 he hc hby hx hw) ht hc2 hb2 hf' (weights_arg hsz htj hdj)
end
end Law
end Go.Proofs.Ytihgmlcmdpmhhaa
