/- Pool: the plain law, the map of places, lists of lists of legs. -/
import Derived.Test.YtgmanmbicoofgaaDoorKlg
import Derived.Maps.Views
import Derived.Maps.OwnSet
import Derived.DeepKeys4
namespace Go.Proofs.YtgmanmbicoofgaaDoor
set_option linter.unusedVariables false
set_option linter.unusedSimpArgs false
namespace Klg
open Go.RowKit Mem Go.Maps
deriving instance DecidableEq for Lg
structure Lg.Good (p : Lg) : Prop where
  a : -9223372036854775808 ≤ p.a ∧ p.a ≤ 9223372036854775807
  b : -9223372036854775808 ≤ p.b ∧ p.b ≤ 9223372036854775807
  c : -9223372036854775808 ≤ p.c ∧ p.c ≤ 9223372036854775807
  d : -9223372036854775808 ≤ p.d ∧ p.d ≤ 9223372036854775807
  e : -9223372036854775808 ≤ p.e ∧ p.e ≤ 9223372036854775807
/-- A leg by all but its quantity. -/
def key (x : Lg) : Lg := ⟨x.a, x.b, x.c, 0, x.e⟩
def find (out : List Lg) (x : Lg) : Option Nat := out.findIdx? fun y => decide (key y = key x)
def Uniq (out : List Lg) : Prop := ∀ i j (hi : i < out.length) (hj : j < out.length), key out[i] = key out[j] → i = j
theorem find_none {out : List Lg} {x : Lg} (h : ∀ i (hi : i < out.length), key out[i] ≠ key x) : find out x = none := by
  unfold find
  rw [List.findIdx?_eq_none_iff]
  intro y hy
  obtain ⟨i, hi, rfl⟩ := List.getElem_of_mem hy
  simpa using h i hi
theorem find_none_ {out : List Lg} {x : Lg} (h : find out x = none) (i : Nat) (hi : i < out.length) : key out[i] ≠ key x := by
  unfold find at h
  rw [List.findIdx?_eq_none_iff] at h
  simpa using h out[i] (List.getElem_mem hi)
theorem find_lt {out : List Lg} {x : Lg} {j : Nat} (h : find out x = some j) : ∃ hj : j < out.length, key out[j] = key x := by
  unfold find at h
  rw [List.findIdx?_eq_some_iff_getElem] at h
  obtain ⟨hj, h1, _⟩ := h
  exact ⟨hj, by simpa using h1⟩
theorem find_some {out : List Lg} {x : Lg} (hu : Uniq out) {i : Nat} (hi : i < out.length) (h : key out[i] = key x) : find out x = some i := by
  cases hf : find out x with
  | none => exact absurd h (find_none_ hf i hi)
  | some j =>
    obtain ⟨hj, h1⟩ := find_lt hf
    rw [hu j i hj hi (h1.trans h.symm)]
def addq : List Lg → Nat → Int → List Lg
  | [], _, _ => []
  | y :: l, 0, q => ⟨y.a, y.b, y.c, y.d + q, y.e⟩ :: l
  | y :: l, j + 1, q => y :: addq l j q
theorem addq_length : ∀ (l : List Lg) (j : Nat) (q : Int), (addq l j q).length = l.length
  | [], _, _ => rfl
  | y :: l, 0, q => rfl
  | y :: l, j + 1, q => by simp [addq, addq_length l j q]
theorem addq_key : ∀ (l : List Lg) (j : Nat) (q : Int) (i : Nat) (hi : i < (addq l j q).length) (hi' : i < l.length), key (addq l j q)[i] = key l[i]
  | y :: l, 0, q, 0, _, _ => rfl
  | y :: l, 0, q, i + 1, _, _ => rfl
  | y :: l, j + 1, q, 0, _, _ => rfl
  | y :: l, j + 1, q, i + 1, hi, hi' => by
    simp only [addq, List.getElem_cons_succ]
    exact addq_key l j q i (by simpa [addq] using hi) (by simpa using hi')
theorem addq_cells : ∀ (l : List Lg) (j : Nat) (q : Int) (hj : j < l.length), (addq l j q).flatMap Lg.cells = (l.flatMap Lg.cells).set (j * 5 + 3) (.int .i64 (l[j].d + q))
  | y :: l, 0, q, _ => rfl
  | y :: l, j + 1, q, hj => by
    simp only [addq, List.flatMap_cons, List.getElem_cons_succ]
    rw [addq_cells l j q (by simpa using hj), List.set_append, if_neg (by rw [Lg.cells_len]; omega), Lg.cells_len, show (j + 1) * 5 + 3 - 5 = j * 5 + 3 by omega]
theorem addq_mem : ∀ (l : List Lg) (j : Nat) (q : Int) (p : Lg), p ∈ addq l j q → p ∈ l ∨ ∃ hj : j < l.length, p = ⟨l[j].a, l[j].b, l[j].c, l[j].d + q, l[j].e⟩
  | y :: l, 0, q, p, h => by
    simp only [addq, List.mem_cons] at h
    rcases h with rfl | h
    · exact .inr ⟨by simp, rfl⟩
    · exact .inl (List.mem_cons_of_mem _ h)
  | y :: l, j + 1, q, p, h => by
    simp only [addq, List.mem_cons] at h
    rcases h with rfl | h
    · exact .inl List.mem_cons_self
    · rcases addq_mem l j q p h with h | ⟨hj, h⟩
      · exact .inl (List.mem_cons_of_mem _ h)
      · exact .inr ⟨by simpa using hj, h⟩
theorem find_addq (l : List Lg) (j : Nat) (q : Int) (x : Lg) (hu : Uniq l) : find (addq l j q) x = find l x := by
  cases hf : find l x with
  | none =>
    refine find_none fun i hi => ?_
    rw [addq_key l j q i hi (by rw [addq_length] at hi; exact hi)]
    exact find_none_ hf i _
  | some k =>
    obtain ⟨hk, h⟩ := find_lt hf
    have hu' : Uniq (addq l j q) := fun a b ha hb h => by
      have ha' := ha
      have hb' := hb
      rw [addq_length] at ha' hb'
      rw [addq_key l j q a ha ha', addq_key l j q b hb hb'] at h
      exact hu a b ha' hb' h
    refine find_some hu' (by rw [addq_length]; exact hk) ?_
    rw [addq_key l j q k _ hk]
    exact h
theorem uniq_addq {l : List Lg} (hu : Uniq l) (j : Nat) (q : Int) : Uniq (addq l j q) := fun a b ha hb h => by
  have ha' := ha
  have hb' := hb
  rw [addq_length] at ha' hb'
  rw [addq_key l j q a ha ha', addq_key l j q b hb hb'] at h
  exact hu a b ha' hb' h
theorem uniq_snoc {l : List Lg} {x : Lg} (hu : Uniq l) (h : find l x = none) : Uniq (l ++ [x]) := fun i j hi hj e => by
  rw [List.length_append, List.length_singleton] at hi hj
  rcases Nat.lt_or_ge i l.length with h1 | h1 <;> rcases Nat.lt_or_ge j l.length with h2 | h2
  · rw [List.getElem_append_left h1, List.getElem_append_left h2] at e
    exact hu i j h1 h2 e
  · obtain rfl : j = l.length := by omega
    rw [List.getElem_append_left h1, List.getElem_append_right (Nat.le_refl _)] at e
    simp at e
    exact absurd e (find_none_ h i h1)
  · obtain rfl : i = l.length := by omega
    rw [List.getElem_append_left h2, List.getElem_append_right (Nat.le_refl _)] at e
    simp at e
    exact absurd e.symm (find_none_ h j h2)
  · omega
theorem find_snoc_none {l : List Lg} {x y : Lg} (h : find l y = none) (hne : key x ≠ key y) : find (l ++ [x]) y = none := find_none fun i hi => by
  rw [List.length_append, List.length_singleton] at hi
  rcases Nat.lt_or_ge i l.length with h1 | h1
  · rw [List.getElem_append_left h1]
    exact find_none_ h i h1
  · obtain rfl : i = l.length := by omega
    rw [List.getElem_append_right (Nat.le_refl _)]
    simpa using hne
theorem find_snoc_some {l : List Lg} {x y : Lg} {j : Nat} (hu : Uniq (l ++ [x])) (h : find l y = some j) : find (l ++ [x]) y = some j := by
  obtain ⟨hj, h1⟩ := find_lt h
  refine find_some hu (by simp; omega) ?_
  rw [List.getElem_append_left hj]
  exact h1
theorem find_snoc_self {l : List Lg} {x y : Lg} (hu : Uniq (l ++ [x])) (h : key x = key y) : find (l ++ [x]) y = some l.length := by
  refine find_some hu (by simp) ?_
  rw [List.getElem_append_right (Nat.le_refl _)]
  simpa using h
/-- What Pool answers: the number of the error (0: none), the legs. -/
def runP : List Lg → List Lg → Int × List Lg
  | out, [] => if out.length = 0 then (2, []) else if 4 < out.length then (5, []) else (0, out)
  | out, x :: xs => if x.d < 1 then (16, []) else match find out x with
    | none => runP (out ++ [x]) xs
    | some j => if 9223372036854775807 - (out.getD j x).d < x.d then (9, []) else runP (addq out j x.d) xs
theorem runP_small {out : List Lg} {x : Lg} {xs : List Lg} (h : x.d < 1) : runP out (x :: xs) = (16, []) := by rw [runP, if_pos h]
theorem runP_new {out : List Lg} {x : Lg} {xs : List Lg} (h : ¬ x.d < 1) (hf : find out x = none) : runP out (x :: xs) = runP (out ++ [x]) xs := by rw [runP, if_neg h, hf]
theorem runP_over {out : List Lg} {x : Lg} {xs : List Lg} {j : Nat} (h : ¬ x.d < 1) (hf : find out x = some j) (hj : j < out.length) (ho : 9223372036854775807 - out[j].d < x.d) : runP out (x :: xs) = (9, []) := by
  rw [runP, if_neg h, hf]
  simp only
  rw [List.getD_eq_getElem?_getD, List.getElem?_eq_getElem hj]
  exact if_pos ho
theorem runP_add {out : List Lg} {x : Lg} {xs : List Lg} {j : Nat} (h : ¬ x.d < 1) (hf : find out x = some j) (hj : j < out.length) (ho : ¬ 9223372036854775807 - out[j].d < x.d) : runP out (x :: xs) = runP (addq out j x.d) xs := by
  rw [runP, if_neg h, hf]
  simp only
  rw [List.getD_eq_getElem?_getD, List.getElem?_eq_getElem hj]
  exact if_neg ho
/-- What is known of the legs that have been met. -/
structure Out (out : List Lg) (N : Nat) : Prop where
  uniq : Uniq out
  qty : ∀ p ∈ out, 1 ≤ p.d ∧ p.d ≤ 9223372036854775807
  few : out.length ≤ N
theorem Out.snoc {out : List Lg} {N : Nat} {x : Lg} (h : Out out N) (hf : find out x = none) (hx : 1 ≤ x.d ∧ x.d ≤ 9223372036854775807) : Out (out ++ [x]) (N + 1) :=
  ⟨uniq_snoc h.uniq hf, fun p hp => by
    rcases List.mem_append.1 hp with hp | hp
    · exact h.qty p hp
    · simp at hp
      subst hp
      exact hx, by have := h.few; simp; omega⟩
theorem Out.add {out : List Lg} {N : Nat} {j : Nat} {q : Int} (h : Out out N) (hj : j < out.length) (hq : 0 ≤ q) (ho : ¬ 9223372036854775807 - out[j].d < q) : Out (addq out j q) (N + 1) :=
  ⟨uniq_addq h.uniq j q, fun p hp => by
    rcases addq_mem out j q p hp with hp | ⟨_, rfl⟩
    · exact h.qty p hp
    · have := h.qty out[j] (List.getElem_mem hj)
      simp only
      omega, by rw [addq_length]; have := h.few; omega⟩
theorem Out.nil : Out [] 0 := ⟨fun i j hi => by simp at hi, by simp, Nat.le_refl _⟩
/-! The map of places. -/
theorem szl : Tryd.prog.types.size = 210 := by kernel_rfl
theorem law : Keyed Tryd.prog 89 := Keyed.of_law (deep_law_laid (by kernel_rfl) (m := 100) (by omega) (by rw [szl]; decide) (by kernel_rfl) (by kernel_rfl))
theorem zeroE (w : World) : (zeroValue 3).run Tryd.prog w = .ok (.int .i64 0) w := by kernel_rfl
theorem keyLeg (x : Lg) (hx : x.Good) : ∃ l, keyOf Tryd.prog 89 (.agg x.cells.toArray) = some l := by
  obtain ⟨h1, h2, h3, h4, h5⟩ := hx
  have hk : Tryd.prog.keyType 89 = true := by kernel_rfl
  have hc : Tryd.prog.cellsOf 89 = 5 := by kernel_rfl
  have c1 : Tryd.prog.cellsOf 3 = 1 := by kernel_rfl
  have c2 : Tryd.prog.cellsOf 2 = 1 := by kernel_rfl
  have wf : ∀ a : Int, (-9223372036854775808 ≤ a ∧ a ≤ 9223372036854775807) → (Lit.int .i64 a).wf = true := fun a ha => by
    simp [Lit.wf, IntKind.min, IntKind.max, IntKind.signed, IntKind.bits]
    omega
  have l1 : ∀ a : Int, (-9223372036854775808 ≤ a ∧ a ≤ 9223372036854775807) → Tryd.prog.keyLits 210 3 [.int .i64 a] = some [.int .i64 a] := fun a ha => by
    simp [Program.keyLits, Tryd.underlying3, wf a ha]
  have l2 : ∀ a : Int, (-9223372036854775808 ≤ a ∧ a ≤ 9223372036854775807) → Tryd.prog.keyLits 210 2 [.int .i64 a] = some [.int .i64 a] := fun a ha => by
    simp [Program.keyLits, Tryd.underlying2, wf a ha]
  unfold keyOf
  rw [Tryd.underlying89]
  simp only
  rw [if_pos (by simp [hk, Value.formed, Tryd.underlying89, hc, Lg.cells]), szl]
  unfold Program.keyLits
  simp only [Tryd.underlying89, Value.cells]
  rw [if_pos ⟨by rw [hc]; rfl, by simp⟩]
  simp [Lg.cells, c1, c2, l1 _ h1, l1 _ h2, l1 _ h3, l2 _ h4, l1 _ h5]
@[irreducible] noncomputable def kl (x : Lg) : Lit := (keyOf Tryd.prog 89 (.agg x.cells.toArray)).getD (.bool false)
theorem kl_is {x : Lg} (hx : x.Good) : keyOf Tryd.prog 89 (.agg x.cells.toArray) = some (kl x) := by
  obtain ⟨l, h⟩ := keyLeg x hx
  unfold kl
  rw [h]
  rfl
theorem kl_inj {x y : Lg} (hx : x.Good) (hy : y.Good) (h : kl x = kl y) : x = y := by
  have h1 := kl_is hx
  rw [h] at h1
  have := law.inj h1 (kl_is hy)
  simp [Lg.cells] at this
  obtain ⟨h1, h2, h3, h4, h5⟩ := this
  cases x
  cases y
  simp_all
theorem Lg.Good.key {x : Lg} (h : x.Good) : (Klg.key x).Good := ⟨h.a, h.b, h.c, by simp [Klg.key], h.e⟩
structure InvM {H : Type} (D : DataW H) (out : List Lg) : Prop where
  map : IsMap D
  no : ∀ x : Lg, x.Good → find out x = none → has D (kl (key x)) = false
  yes : ∀ x : Lg, x.Good → ∀ j, find out x = some j → has D (kl (key x)) = true ∧ D.atKey (kl (key x)) (.lit (.int .i64 0)) = .lit (.int .i64 j)
theorem InvM.nil {H : Type} : InvM (.map [] : DataW H) [] := ⟨⟨[], rfl⟩, fun _ _ _ => rfl, fun x _ j h => by
  obtain ⟨hj, _⟩ := find_lt h
  simp at hj⟩
theorem InvM.snoc {H : Type} {D : DataW H} {out : List Lg} {x : Lg} (h : InvM D out) (hx : x.Good) (hu : Uniq (out ++ [x])) (hf : find out x = none) : InvM (D.put (kl (key x)) (.lit (.int .i64 out.length))) (out ++ [x]) := by
  have h0 := kl_is hx.key
  have hk := law.key h0
  refine ⟨h.map.put _ _, fun y hy hn => ?_, fun y hy j hj => ?_⟩
  · have hne : key x ≠ key y := fun e => by
      rw [find_snoc_self hu e] at hn
      cases hn
    have hn' : find out y = none := by
      cases hf' : find out y with
      | none => rfl
      | some j => rw [find_snoc_some hu hf'] at hn; cases hn
    rw [has_put_other (fun e => hne (kl_inj hx.key hy.key e.symm))]
    exact h.no y hy hn'
  · by_cases he : key x = key y
    · rw [find_snoc_self hu he] at hj
      injection hj with hj
      subst hj
      rw [← he]
      exact ⟨has_put_same h.map hk _, atKey_put_same h.map hk _ _⟩
    · have hne : kl (key y) ≠ kl (key x) := fun e => he (kl_inj hx.key hy.key e.symm)
      rw [has_put_other hne, atKey_put_other hne]
      refine h.yes y hy j ?_
      cases hf' : find out y with
      | none => rw [find_snoc_none hf' he] at hj; cases hj
      | some i => rw [find_snoc_some hu hf'] at hj; exact hj
theorem InvM.add {H : Type} {D : DataW H} {out : List Lg} (h : InvM D out) (hu : Uniq out) (j : Nat) (q : Int) : InvM D (addq out j q) :=
  ⟨h.map, fun x hx hn => h.no x hx (by rw [find_addq out j q x hu] at hn; exact hn), fun x hx i hi => h.yes x hx i (by rw [find_addq out j q x hu] at hi; exact hi)⟩
/-! Lists of lists of legs. -/
def RdLL (w : World) (ok : Nat → Prop) (A : Option Addr) (rows : List (List Lg)) : Prop :=
  ∃ V : Nat → Value, RdV w ok 1 A rows.length ((List.range rows.length).map V) ∧ ∀ i (hi : i < rows.length), ∃ Ai ci, V i = .slice Ai rows[i].length ci ∧ rows[i].length ≤ ci ∧ RdLg w ok Ai rows[i]
theorem RdLL.keep {w w' : World} {ok S : Nat → Prop} {A : Option Addr} {rows : List (List Lg)} (h : RdLL w ok A rows) (hk : Keep S w w') (hs : ∀ k, ok k → ¬ S k) : RdLL w' ok A rows := by
  obtain ⟨V, h1, h2⟩ := h
  refine ⟨V, RdV.keep h1 hk hs, fun i hi => ?_⟩
  obtain ⟨Ai, ci, e, hc, hr⟩ := h2 i hi
  exact ⟨Ai, ci, e, hc, RdV.keep hr hk hs⟩
theorem RdLL.at_ {w : World} {ok : Nat → Prop} {A : Option Addr} {rows : List (List Lg)} (h : RdLL w ok A rows) {i : Nat} (hi : i < rows.length) :
    ∃ ad Ai ci, A = some ad ∧ ok (ad.add i).block ∧ w.cell? (ad.add i) = some (.slice Ai rows[i].length ci) ∧ rows[i].length ≤ ci ∧ RdLg w ok Ai rows[i] := by
  obtain ⟨V, h1, h2⟩ := h
  obtain ⟨ad, e, hb, hc⟩ := h1.2 (by omega)
  obtain ⟨Ai, ci, e2, hci, hr⟩ := h2 i hi
  refine ⟨ad, Ai, ci, e, by rw [block_of_add]; exact hb, ?_, hci, hr⟩
  rw [← e2]
  exact hc i _ (by simp [hi])
theorem drop_flat {rows : List (List Lg)} {i : Nat} (hi : i < rows.length) : (rows.drop i).flatten = rows[i] ++ (rows.drop (i + 1)).flatten := by
  rw [List.drop_eq_getElem_cons hi, List.flatten_cons]
theorem drop_one {l : List Lg} {k : Nat} (hk : k < l.length) : l.drop k = l[k] :: l.drop (k + 1) := List.drop_eq_getElem_cons hk
end Klg
end Go.Proofs.YtgmanmbicoofgaaDoor
