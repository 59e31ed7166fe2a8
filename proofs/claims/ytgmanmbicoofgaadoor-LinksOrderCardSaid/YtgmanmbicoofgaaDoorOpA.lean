/- An argument opened: a slice of arrays of numbers. -/
import Derived.Test.YtgmanmbicoofgaaDoorOpen
namespace Go.Proofs.YtgmanmbicoofgaaDoor
set_option linter.unusedVariables false
namespace Law
open Go.ChangeShapes Go.WideShapes Go.ChangeAt Go.RowKit Go.Deep Mem
section
variable {H : Type} {enc : TypeId × Value → H} {P : Program} {w : World} {base : Nat} {spare : Nat → Bool} {held : Bool}
theorem open_slice_arrs {t e q : TypeId} {N fuel : Nat} {cs : List Value} {x : DataW H × List MemPlace} (ht : P.underlying t = some (.slice e)) (he : P.underlying e = some (.array N q))
    (hq : P.cellsOf q = 1) (hC : P.cellsOf e = N) (h : DataW.trod enc P w base spare held fuel t cs = some x) :
    (cs = [.slice none 0 0] ∧ x = (.nil, [])) ∨
    ∃ (a : Addr) (len cap m : Nat) (D : Nat → DataW H) (Pl : Nat → List MemPlace), cs = [.slice (some a) len cap] ∧ base ≤ a.block ∧ len ≤ cap ∧ cap ≤ maxLen ∧ m = (if spare a.block then cap else len) ∧
      x = (.slice ((List.range len).map D) ((List.range (m - len)).map fun j => D (len + j)), MemPlace.row a (m * N) ++ (List.range m).flatMap Pl) ∧
      ∀ i, i < m → ∃ (ys : List (DataW H × List MemPlace)) (n : Nat), D i = .agg (ys.map (·.1)) ∧ Pl i = ys.flatMap (·.2) ∧ ys.length = N ∧
        ∀ (j : Nat), j < N → ∃ (v : Value) (y : DataW H × List MemPlace), w.cell? (a.add (i * N + j)) = some v ∧ ys[j]? = some y ∧ DataW.trod enc P w base spare held n q [v] = some y := by
  rcases open_slice ht h with h0 | ⟨a, len, cap, m, n, D, Pl, hcs, hb, hl, hm, hmm, hx, hi⟩
  · exact .inl h0
  · refine .inr ⟨a, len, cap, m, D, Pl, hcs, hb, hl, hm, hmm, by rw [hC] at hx; exact hx, fun i him => ?_⟩
    obtain ⟨cs', hc, ht'⟩ := hi i him
    rw [hC] at hc
    obtain ⟨ys, n', hn', hy, hlen, hyl, hf⟩ := DataW.trod_array he ht'
    obtain ⟨_, hcl, hat⟩ := World.cells?_some hc
    simp only [Prod.mk.injEq] at hy
    refine ⟨ys, n', hy.1, hy.2, hyl, fun j hjl => ?_⟩
    have hcell := hat j hjl
    have hv : cs'[j]? = some (cs'[j]'(by omega)) := List.getElem?_eq_getElem (by omega)
    have h1 := hf j hjl
    rw [hq, Nat.mul_one] at h1
    have hone' : (cs'.drop j).take 1 = [cs'[j]'(by omega)] := by
      rw [List.drop_eq_getElem_cons (by omega)]
      rfl
    rw [hone'] at h1
    have hys : ys[j]? = some (ys[j]'(by omega)) := List.getElem?_eq_getElem (by omega)
    refine ⟨_, _, ?_, hys, h1.trans hys⟩
    rw [← Go.Deep.add_add, hcell, hv]
end
section
variable {H : Type} {enc : TypeId × Value → H} {P : Program} {W : World} {r : Reach} {b0 : Nat} {t e q : TypeId} {v : Value} {d : DataW H} {p : List MemPlace} {ts : List TypeId} {ds : List (DataW H)} {j : Nat}
theorem open_arrs {α : Type} {N : Nat} {bytes : Nat} (f : α → List Value) (Good : α → Prop) (hm : ∀ p, (f p).length = N) (hfs : 0 < N)
    (mk : ∀ vs : Nat → Value, (∀ j, j < N → ∃ (n : Nat) (y : DataW H × List MemPlace), DataW.trod enc P W 0 (fun _ => true) true n q [vs j] = some y) → ∃ p, Good p ∧ ∀ j, j < N → (f p)[j]? = some (vs j))
    (ht : P.underlying t = some (.slice e)) (he : P.underlying e = some (.array N q)) (hq : P.cellsOf q = 1) (hC : P.cellsOf e = N) (hby : P.bytesOf e = bytes)
    (hv : Value.okWide P W r b0 t v) (h : DataW.Trod enc P W 0 (fun _ => true) true t v d p) (hlt : ∀ x ∈ p, x.block < W.heap.size)
    (hsz : (DataW.weightsEach P ts ds).all (· ≤ reachBytes) = true) (htj : ts[j]? = some t) (hdj : ds[j]? = some d) :
    ∃ (A : Option Addr) (c : Nat) (ps : List α), v = .slice A ps.length c ∧ ps.length ≤ c ∧ RdV W (fun k => k < W.heap.size) N A ps.length (ps.flatMap f) ∧ (∀ p ∈ ps, Good p) ∧ ps.length * bytes ≤ 140737488351232 := by
  obtain ⟨a0, len, cap, rfl⟩ := okWide_slice ht hv
  obtain ⟨fuel, hf⟩ := h
  rcases open_slice_arrs ht he hq hC hf with ⟨hcs, hx⟩ | ⟨a, len', cap', m, D, Pl, hcs, _, hl, hmx, hmm, hx, hi⟩
  · simp [Value.cells] at hcs
    obtain ⟨rfl, rfl, rfl⟩ := hcs
    exact ⟨none, 0, [], rfl, Nat.le_refl _, ⟨by simp, fun h => absurd h (by simp)⟩, by simp, by simp⟩
  · simp [Value.cells] at hcs
    obtain ⟨rfl, rfl, rfl⟩ := hcs
    simp only [Prod.mk.injEq] at hx
    obtain ⟨rfl, rfl⟩ := hx
    simp only [if_true] at hmm
    subst hmm
    have hreach := sized_slice hsz htj hdj ht
    rw [hby] at hreach
    simp only [List.length_map, List.length_range, reachBytes] at hreach
    have e1 : len + (m - len) = m := by omega
    rw [e1] at hreach
    have hlb : len * bytes ≤ m * bytes := Nat.mul_le_mul_right _ hl
    have hrow : ∀ i, i < len → ∃ q : α, Good q ∧ ∀ j, j < N → W.cell? (a.add (i * N + j)) = (f q)[j]? := by
      intro i hil
      obtain ⟨ys, n, hD, hPl, hys, hfd⟩ := hi i (by omega)
      have hcell : ∀ j, j < N → ∃ (u : Value), W.cell? (a.add (i * N + j)) = some u := fun j hj => by
        obtain ⟨u, y, hc, _, _⟩ := hfd j hj
        exact ⟨u, hc⟩
      obtain ⟨z, hz, hzc⟩ := mk (fun j => (W.cell? (a.add (i * N + j))).getD undef) (fun j hj => by
        obtain ⟨u, y, hc, hyj, hty⟩ := hfd j hj
        exact ⟨n, y, by simp only [hc, Option.getD_some]; exact hty⟩)
      refine ⟨z, hz, fun j hj => ?_⟩
      obtain ⟨u, hu⟩ := hcell j hj
      rw [hzc j hj, hu]; rfl
    obtain ⟨ps, hpl, hps⟩ := choose_list len hrow
    subst hpl
    refine ⟨some a, m, ps, rfl, hl, rdV_of f N hm hfs ps (some a) (fun hp => ⟨a, rfl, ?_, fun i hi j hj => (hps i hi).2 j hj⟩), fun q hq => ?_, by omega⟩
    · have hc0 := (hps 0 hp).2 0 hfs
      obtain ⟨b, off, spot⟩ := a
      have hs : ∃ u, W.cell? ((⟨b, off, spot⟩ : Addr).add (0 * N + 0)) = some u := by
        rw [hc0]
        exact ⟨_, List.getElem?_eq_getElem (by rw [hm]; exact hfs)⟩
      obtain ⟨u, hu⟩ := hs
      have := World.block_lt_of_cell? W _ hu
      rwa [block_of_add] at this
    · obtain ⟨i, hi, rfl⟩ := List.getElem_of_mem hq
      exact (hps i hi).1
end
end Law
end Go.Proofs.YtgmanmbicoofgaaDoor
