/-
  Arguments opened: slices of numbers, of structs of one-cell fields; what the row's reach says of their lengths.
-/
import Derived.ProofKit
import Derived.OpenShut
import Derived.Deep.Slices
import Derived.Deep.Fields
import Derived.ChangeSame
import Derived.SizedLaws
import Derived.Test.YtihgmlcmdpmhhaaApN
namespace Go.Proofs.Ytihgmlcmdpmhhaa
set_option linter.unusedVariables false
namespace Law
open Go.ChangeShapes Go.WideShapes Go.ChangeAt Go.RowKit Go.Deep Mem
section
variable {H : Type} {enc : TypeId × Value → H} {P : Program} {w : World} {base : Nat} {spare : Nat → Bool} {held : Bool}
theorem open_slice_fields {t e : TypeId} {fs : Array Field} {fuel : Nat} {cs : List Value} {x : DataW H × List MemPlace} (ht : P.underlying t = some (.slice e)) (he : P.underlying e = some (.struct fs))
    (hone : oneCellFields P fs = true) (hC : P.cellsOf e = fs.size) (h : DataW.trod enc P w base spare held fuel t cs = some x) :
    (cs = [.slice none 0 0] ∧ x = (.nil, [])) ∨
    ∃ (a : Addr) (len cap m : Nat) (D : Nat → DataW H) (Pl : Nat → List MemPlace), cs = [.slice (some a) len cap] ∧ base ≤ a.block ∧ len ≤ cap ∧ cap ≤ maxLen ∧ m = (if spare a.block then cap else len) ∧
      x = (.slice ((List.range len).map D) ((List.range (m - len)).map fun j => D (len + j)), MemPlace.row a (m * fs.size) ++ (List.range m).flatMap Pl) ∧
      ∀ i, i < m → ∃ (ys : List (DataW H × List MemPlace)) (n : Nat), D i = .agg (ys.map (·.1)) ∧ Pl i = ys.flatMap (·.2) ∧ ys.length = fs.size ∧
        ∀ (j : Nat) (f : Field), fs[j]? = some f → ∃ (v : Value) (y : DataW H × List MemPlace), w.cell? (a.add (i * fs.size + j)) = some v ∧ ys[j]? = some y ∧ DataW.trod enc P w base spare held n f.type [v] = some y := by
  rcases open_slice ht h with h0 | ⟨a, len, cap, m, n, D, Pl, hcs, hb, hl, hm, hmm, hx, hi⟩
  · exact .inl h0
  · refine .inr ⟨a, len, cap, m, D, Pl, hcs, hb, hl, hm, hmm, by rw [hC] at hx; exact hx, fun i him => ?_⟩
    obtain ⟨cs', hc, ht'⟩ := hi i him
    rw [hC] at hc
    obtain ⟨ys, n', hn', hy, hlen, hyl, hf⟩ := DataW.trod_struct he ht'
    obtain ⟨_, hcl, hat⟩ := World.cells?_some hc
    simp only [Prod.mk.injEq] at hy
    refine ⟨ys, n', hy.1, hy.2, hyl, fun j f hj => ?_⟩
    obtain ⟨ho, hk⟩ := hone_of hone j f hj
    have hjl : j < fs.size := (Array.getElem?_eq_some_iff.1 hj).1
    have hcell := hat j hjl
    have hv : cs'[j]? = some (cs'[j]'(by omega)) := List.getElem?_eq_getElem (by omega)
    have h1 := hf j f hj
    rw [ho, hk] at h1
    have hone' : (cs'.drop j).take 1 = [cs'[j]'(by omega)] := by
      rw [List.drop_eq_getElem_cons (by omega)]
      rfl
    rw [hone'] at h1
    have hys : ys[j]? = some (ys[j]'(by omega)) := List.getElem?_eq_getElem (by omega)
    refine ⟨_, _, ?_, hys, h1.trans hys⟩
    rw [← Go.Deep.add_add, hcell, hv]
end
theorem choose_list {α : Type} {R : Nat → α → Prop} (n : Nat) (h : ∀ i, i < n → ∃ p, R i p) : ∃ ps : List α, ps.length = n ∧ ∀ i (hi : i < ps.length), R i ps[i] := by
  induction n with
  | zero => exact ⟨[], rfl, fun i hi => by simp at hi⟩
  | succ n ih =>
    obtain ⟨ps, hl, hp⟩ := ih (fun i hi => h i (by omega))
    obtain ⟨p, hpn⟩ := h n (by omega)
    refine ⟨ps ++ [p], by simp [hl], fun i hi => ?_⟩
    by_cases hin : i < ps.length
    · rw [List.getElem_append_left hin]; exact hp i hin
    · have : i = n := by simp [hl] at hi hin; omega
      subst this
      rw [List.getElem_append_right (by omega)]
      simpa [hl] using hpn
theorem flat_get {α β : Type} (f : α → List β) (m : Nat) (hm : ∀ p, (f p).length = m) : ∀ (ps : List α) (i j : Nat) (hi : i < ps.length), j < m → (ps.flatMap f)[i * m + j]? = (f ps[i])[j]?
  | p :: ps, 0, j, hi, hj => by simp [List.getElem?_append_left (show j < (f p).length by rw [hm]; exact hj)]
  | p :: ps, i + 1, j, hi, hj => by
    rw [List.flatMap_cons, List.getElem?_append_right (by rw [hm, Nat.add_mul]; omega), hm]
    have e : (i + 1) * m + j - m = i * m + j := by rw [Nat.add_mul]; omega
    rw [e, flat_get f m hm ps i j (by simpa using hi) hj]
    rfl
theorem flat_len {α β : Type} (f : α → List β) (m : Nat) (hm : ∀ p, (f p).length = m) (ps : List α) : (ps.flatMap f).length = ps.length * m := by
  induction ps with
  | nil => simp
  | cons p ps ih => rw [List.flatMap_cons, List.length_append, hm, ih, List.length_cons, Nat.add_mul]; omega
/-- Rows that are told cell by cell read as a list. -/
theorem rdV_of {α : Type} {W : World} {ok : Nat → Prop} (f : α → List Value) (m : Nat) (hm : ∀ p, (f p).length = m) (hm0 : 0 < m) (ps : List α) (A : Option Addr)
    (h : 0 < ps.length → ∃ ad, A = some ad ∧ ok ad.block ∧ ∀ i (hi : i < ps.length) j, j < m → W.cell? (ad.add (i * m + j)) = (f ps[i])[j]?) : RdV W ok m A ps.length (ps.flatMap f) := by
  refine ⟨flat_len f m hm ps, fun hp => ?_⟩
  obtain ⟨ad, e, ho, hc⟩ := h hp
  refine ⟨ad, e, ho, fun j u hu => ?_⟩
  have hj : j < ps.length * m := by
    have := (List.getElem?_eq_some_iff.1 hu).1
    rw [flat_len f m hm] at this
    exact this
  have hi : j / m < ps.length := Nat.div_lt_of_lt_mul (by rw [Nat.mul_comm]; exact hj)
  have hjm : j % m < m := Nat.mod_lt _ hm0
  have ej : j / m * m + j % m = j := by rw [Nat.mul_comm]; exact Nat.div_add_mod j m
  have h1 := hc (j / m) hi (j % m) hjm
  have h2 := flat_get f m hm ps (j / m) (j % m) hi hjm
  rw [ej] at h1 h2
  rw [h1, ← h2, hu]
theorem weights_all {H : Type} {P : Program} {e : TypeId} : ∀ {l : List (DataW H)} {d : DataW H}, d ∈ l → ∀ m ∈ d.weights P e, m ∈ DataW.weightsAll P e l
  | x :: l, d, h, m, hm => by
    simp only [DataW.weightsAll, List.mem_append]
    rcases List.mem_cons.1 h with rfl | h
    · exact .inl hm
    · exact .inr (weights_all h m hm)
section
variable {H : Type} {enc : TypeId × Value → H} {P : Program} {W : World} {r : Reach} {b0 : Nat} {t e : TypeId} {v : Value} {d : DataW H} {p : List MemPlace} {ts : List TypeId} {ds : List (DataW H)} {j : Nat}
/-- A slice of numbers among the arguments. -/
theorem open_nums {k : IntKind} {bytes : Nat} (ht : P.underlying t = some (.slice e)) (he : P.underlying e = some (.int k)) (hc : P.cellsOf e = 1) (hby : P.bytesOf e = bytes)
    (hv : Value.okWide P W r b0 t v) (h : DataW.Trod enc P W 0 (fun _ => true) true t v d p) (hlt : ∀ x ∈ p, x.block < W.heap.size)
    (hsz : (DataW.weightsEach P ts ds).all (· ≤ reachBytes) = true) (htj : ts[j]? = some t) (hdj : ds[j]? = some d) :
    ∃ (A : Option Addr) (n c : Nat) (xs : List Int), v = .slice A n c ∧ n ≤ c ∧ RdN W (fun k => k < W.heap.size) k A n xs ∧ (∀ x ∈ xs, (Lit.int k x).wf = true) ∧ n * bytes ≤ 140737488351232 := by
  obtain ⟨a0, len, cap, rfl⟩ := okWide_slice ht hv
  obtain ⟨fuel, hf⟩ := h
  rcases open_ints ht he hc hf with ⟨hcs, hx⟩ | ⟨a, len', cap', zs, hcs, _, hl, hm, hz, hx, hcell, hwz⟩
  · simp [Value.cells] at hcs
    obtain ⟨rfl, rfl, rfl⟩ := hcs
    exact ⟨none, 0, 0, [], rfl, Nat.le_refl _, ⟨by simp [nums], fun h => absurd h (by omega)⟩, by simp, by simp⟩
  · simp [Value.cells] at hcs
    obtain ⟨rfl, rfl, rfl⟩ := hcs
    simp only [Prod.mk.injEq] at hx
    obtain ⟨rfl, rfl⟩ := hx
    simp only [if_true] at hz
    have hreach := sized_slice hsz htj hdj ht
    rw [hby] at hreach
    simp only [lits, List.length_map, List.length_take, List.length_drop, reachBytes] at hreach
    have e1 : min len zs.length + (zs.length - len) = zs.length := by omega
    rw [e1, hz] at hreach
    have hlb : len * bytes ≤ cap * bytes := Nat.mul_le_mul_right _ hl
    refine ⟨some a, len, cap, zs.take len, rfl, hl, ⟨by simp [nums]; omega, fun hp => ⟨a, rfl, ?_, fun j u hu => ?_⟩⟩, fun x hx => hwz x (List.mem_of_mem_take hx), by omega⟩
    · obtain ⟨b, off, spot⟩ := a
      have hspot : spot = none := by simpa [Addr.add] using World.cell?_spot (hcell 0 (by omega))
      subst hspot
      exact hlt (.cell b off) (MemPlace.mem_row.2 ⟨0, by omega, by simp⟩)
    · simp only [nums, List.getElem?_map, Option.map_eq_some_iff] at hu
      obtain ⟨y, hy, rfl⟩ := hu
      rw [List.getElem?_take] at hy
      split at hy
      · rename_i hjl
        rw [hcell j (by omega), List.getD_eq_getElem?_getD, hy]; rfl
      · cases hy
/-- A slice of structs of one-cell fields among the arguments. -/
theorem open_recs {α : Type} {fs : Array Field} {bytes : Nat} (f : α → List Value) (Good : α → Prop) (hm : ∀ p, (f p).length = fs.size) (hfs : 0 < fs.size)
    (mk : ∀ vs : Nat → Value, (∀ j fd, fs[j]? = some fd → ∃ (n : Nat) (y : DataW H × List MemPlace), DataW.trod enc P W 0 (fun _ => true) true n fd.type [vs j] = some y ∧ ∀ m ∈ y.1.weights P fd.type, m ≤ 140737488351232) → ∃ p, Good p ∧ ∀ j, j < fs.size → (f p)[j]? = some (vs j))
    (ht : P.underlying t = some (.slice e)) (he : P.underlying e = some (.struct fs)) (hone : oneCellFields P fs = true) (hC : P.cellsOf e = fs.size) (hby : P.bytesOf e = bytes)
    (hv : Value.okWide P W r b0 t v) (h : DataW.Trod enc P W 0 (fun _ => true) true t v d p) (hlt : ∀ x ∈ p, x.block < W.heap.size)
    (hsz : (DataW.weightsEach P ts ds).all (· ≤ reachBytes) = true) (htj : ts[j]? = some t) (hdj : ds[j]? = some d) :
    ∃ (A : Option Addr) (c : Nat) (ps : List α), v = .slice A ps.length c ∧ ps.length ≤ c ∧ RdV W (fun k => k < W.heap.size) fs.size A ps.length (ps.flatMap f) ∧ (∀ p ∈ ps, Good p) ∧ ps.length * bytes ≤ 140737488351232 := by
  obtain ⟨a0, len, cap, rfl⟩ := okWide_slice ht hv
  obtain ⟨fuel, hf⟩ := h
  rcases open_slice_fields ht he hone hC hf with ⟨hcs, hx⟩ | ⟨a, len', cap', m, D, Pl, hcs, _, hl, hmx, hmm, hx, hi⟩
  · simp [Value.cells] at hcs
    obtain ⟨rfl, rfl, rfl⟩ := hcs
    exact ⟨none, 0, [], rfl, Nat.le_refl _, ⟨by simp, fun h => absurd h (by simp)⟩, by simp, by simp⟩
  · simp [Value.cells] at hcs
    obtain ⟨rfl, rfl, rfl⟩ := hcs
    simp only [Prod.mk.injEq] at hx
    obtain ⟨rfl, rfl⟩ := hx
    simp only [if_true] at hmm
    subst hmm
    have hreach := sized_slice hsz htj hdj ht
    rw [hby] at hreach
    simp only [List.length_map, List.length_range, reachBytes] at hreach
    have e1 : len + (m - len) = m := by omega
    rw [e1] at hreach
    have hlb : len * bytes ≤ m * bytes := Nat.mul_le_mul_right _ hl
    have hrow : ∀ i, i < len → ∃ q : α, Good q ∧ ∀ j, j < fs.size → W.cell? (a.add (i * fs.size + j)) = (f q)[j]? := by
      intro i hil
      obtain ⟨ys, n, hD, hPl, hys, hfd⟩ := hi i (by omega)
      have hcell : ∀ j, j < fs.size → ∃ (u : Value), W.cell? (a.add (i * fs.size + j)) = some u := fun j hj => by
        obtain ⟨u, y, hc, _, _⟩ := hfd j fs[j] (Array.getElem?_eq_getElem hj)
        exact ⟨u, hc⟩
      obtain ⟨q, hq, hqc⟩ := mk (fun j => (W.cell? (a.add (i * fs.size + j))).getD undef) (fun j fd hj => by
        obtain ⟨u, y, hc, hyj, hty⟩ := hfd j fd hj
        refine ⟨n, y, by simp only [hc, Option.getD_some]; exact hty, fun m' hm' => ?_⟩
        have hw1 : m' ∈ (D i).weights P e := by
          rw [hD]
          simp only [DataW.weights, he]
          exact DataW.weights_mem_each (j := j) (t := fd.type) (d := y.1) (by simp [hj]) (by simp [hyj]) m' hm'
        have hw2 : m' ∈ (DataW.slice ((List.range len).map D) ((List.range (m - len)).map fun j => D (len + j))).weights P t := by
          simp only [DataW.weights, ht, List.mem_cons, List.mem_append]
          exact .inr (.inl (weights_all (List.mem_map.2 ⟨i, List.mem_range.2 hil, rfl⟩) m' hw1))
        have := List.all_eq_true.1 hsz _ (DataW.weights_mem_each htj hdj m' hw2)
        simp only [reachBytes] at this
        exact of_decide_eq_true this)
      refine ⟨q, hq, fun j hj => ?_⟩
      obtain ⟨u, hu⟩ := hcell j hj
      rw [hqc j hj, hu]; rfl
    obtain ⟨ps, hpl, hps⟩ := choose_list len hrow
    subst hpl
    refine ⟨some a, m, ps, rfl, hl, rdV_of f fs.size hm hfs ps (some a) (fun hp => ⟨a, rfl, ?_, fun i hi j hj => (hps i hi).2 j hj⟩), fun q hq => ?_, by omega⟩
    · have hc0 := (hps 0 hp).2 0 hfs
      obtain ⟨b, off, spot⟩ := a
      have hs : ∃ u, W.cell? ((⟨b, off, spot⟩ : Addr).add (0 * fs.size + 0)) = some u := by
        rw [hc0]
        exact ⟨_, List.getElem?_eq_getElem (by rw [hm]; exact hfs)⟩
      obtain ⟨u, hu⟩ := hs
      have := World.block_lt_of_cell? W _ hu
      rwa [block_of_add] at this
    · obtain ⟨i, hi, rfl⟩ := List.getElem_of_mem hq
      exact (hps i hi).1
end
end Law
end Go.Proofs.Ytihgmlcmdpmhhaa
