/- Lists apart: what is laid over, grown and read again, for each type of element (no walk). -/
import Derived.Test.YtihgmlcmdpmhhaaApn
namespace Go.Proofs.Ytihgmlcmdpmhhaa
set_option linter.unusedVariables false
set_option linter.unusedSimpArgs false
namespace Aps
open Go.RowKit Mem
/-- The marks of list k, n of them. -/
def mkr (M : Nat → Nat → List Value) (k : Nat) : Nat → List Value
  | 0 => []
  | n + 1 => mkr M k n ++ M k n
structure Marks (M : Nat → Nat → List Value) (s : Nat) : Prop where
  len : ∀ k i, (M k i).length = s
  one : ∀ k i, ∀ u ∈ M k i, u.oneCell' = true
section
variable {M : Nat → Nat → List Value} {s : Nat}
theorem mkr_length (h : Marks M s) (k n : Nat) : (mkr M k n).length = n * s := by
  induction n with
  | zero => simp [mkr]
  | succ n ih => simp [mkr, ih, h.len, Nat.add_mul]
theorem mkr_one (h : Marks M s) (k n : Nat) : ∀ u ∈ mkr M k n, u.oneCell' = true := by
  induction n with
  | zero => simp [mkr]
  | succ n ih =>
    intro u hu
    rcases List.mem_append.1 hu with h1 | h1
    · exact ih u h1
    · exact h.one _ _ u h1
theorem mkr_take (h : Marks M s) (k n m : Nat) (hn : n ≤ m) : (mkr M k m).take (n * s) = mkr M k n := by
  induction m with
  | zero =>
    obtain rfl : n = 0 := by omega
    simp [mkr]
  | succ m ih =>
    rcases Nat.lt_or_ge n (m + 1) with h1 | h1
    · rw [mkr, List.take_append_of_le_length (by rw [mkr_length h]; exact Nat.mul_le_mul_right _ (by omega))]
      exact ih (by omega)
    · obtain rfl : n = m + 1 := by omega
      rw [List.take_of_length_le (by rw [mkr_length h]; exact Nat.le_refl _)]
theorem mkr_at (h : Marks M s) (k n i t : Nat) (hi : i < n) (ht : t < s) : (mkr M k n)[i * s + t]? = (M k i)[t]? := by
  have hm : i * s + t < (i + 1) * s := by rw [Nat.add_mul]; omega
  have h1 : (mkr M k n)[i * s + t]? = (mkr M k (i + 1))[i * s + t]? := by
    rw [← mkr_take h k (i + 1) n (by omega), List.getElem?_take, if_pos hm]
  rw [h1, mkr, List.getElem?_append_right (by rw [mkr_length h]; omega), mkr_length h]
  congr 1
  omega
end
theorem below_drw {n : Nat} {w w' : World} (h : Below n w w') : Below n w w'.drew := ⟨h.os, h.tape, h.output, h.size, h.block⟩
theorem below_drwN {n : Nat} {w w' : World} (h : Below n w w') (k : Nat) : Below n w (w'.drewN k) := ⟨h.os, h.tape, h.output, h.size, h.block⟩
theorem own_slc {w : World} {base e size n : Nat} {v : Value} {xs : List Value} (h : w.ownsW base e size v n xs) : ∃ A c, v = .slice A n c ∧ n ≤ c := by
  rcases h.2 with ⟨rfl, rfl⟩ | ⟨g, cap, cur, rfl, _, _, hc, _⟩
  · exact ⟨none, 0, rfl, Nat.le_refl _⟩
  · exact ⟨_, cap, rfl, hc⟩
theorem own_type_ne {w : World} {base base' s s' n n' b : Nat} {e e' : TypeId} {v v' : Value} {xs xs' : List Value} (h : w.ownsW base e s v n xs) (h' : w.ownsW base' e' s' v' n' xs') (hne : e ≠ e') (hb : v.ownBlock = some b) : v'.ownBlock ≠ some b := by
  rcases h.2 with ⟨rfl, _⟩ | ⟨g, cap, cur, rfl, _, hg, _⟩
  · simp [Value.ownBlock] at hb
  · rcases h'.2 with ⟨rfl, _⟩ | ⟨g', cap', cur', rfl, _, hg', _⟩
    · simp [Value.ownBlock]
    · simp [Value.ownBlock] at hb ⊢
      subst hb
      rintro rfl
      rw [hg] at hg'
      injection hg' with hg'
      injection hg' with _ h2
      exact hne h2
theorem rd_new (w : World) (cs : List Value) (s : Nat) (t : TypeId) (h : cs.length = s) : RdV (w.alloc (.cells cs.toArray t)) (fun _ => True) s (some ⟨w.heap.size, 0, none⟩) 1 cs :=
  ⟨by rw [h, Nat.one_mul], fun _ => ⟨_, rfl, trivial, World.news_of_block (cs := cs.toArray) (t := t) (fr := (0, 0)) (heap_alloc_new _ _)⟩⟩
theorem rd_lit (w : World) (cs : List Value) (s n : Nat) (t : TypeId) (h : cs.length = n * s) : RdV (w.alloc (.cells cs.toArray t)) (fun b => b = w.heap.size) s (some ⟨w.heap.size, 0, none⟩) n cs :=
  ⟨h, fun _ => ⟨_, rfl, rfl, World.news_of_block (cs := cs.toArray) (t := t) (fr := (0, 0)) (heap_alloc_new _ _)⟩⟩
def two_ (a b : Value) (j : Nat) : Value := if j = 0 then a else b
/-- A list v of n elements that was handed out, and what it grew to: both bear the marks of k. -/
structure Pair (M : Nat → Nat → List Value) (w : World) (base : Nat) (e : TypeId) (s k n : Nat) (v g : Value) (m : Nat) : Prop where
  le : n ≤ m
  own : w.ownsW base e s g m (mkr M k m)
  rd : ∃ A c, v = .slice A n c ∧ (0 < n → ∃ b, A = some ⟨b, 0, none⟩) ∧ RdV w (fun b => v.ownBlock = some b) s A n (mkr M k n)
section
variable {M : Nat → Nat → List Value} {w w' : World} {base s k n m : Nat} {e : TypeId} {v g g' : Value}
theorem Pair.start (h : w.ownsW base e s v n (mkr M k n)) : Pair M w base e s k n v v n := by
  refine ⟨Nat.le_refl _, h, ?_⟩
  obtain ⟨A, c, hv, _, hr⟩ := RdV.of_own h
  refine ⟨A, c, hv, fun hn => ?_, hr⟩
  obtain ⟨b, cap, hv', _, _⟩ := h.form hn
  rw [hv] at hv'
  injection hv' with h1
  exact ⟨b, h1⟩
theorem Pair.keep {S : Nat → Prop} (h : Pair M w base e s k n v g m) (hk : Keep S w w') (h1 : ∀ b, v.ownBlock = some b → ¬ S b) (h2 : ∀ b, g.ownBlock = some b → ¬ S b) : Pair M w' base e s k n v g m := by
  obtain ⟨A, c, hv, hA, hr⟩ := h.rd
  exact ⟨h.le, hk.own h.own h2, A, c, hv, hA, hr.keep hk h1⟩
theorem Pair.next (hM : Marks M s) (h : Pair M w base e s k n v g m) (ho : w'.ownsW base e s g' (m + 1) (mkr M k m ++ M k m)) (hg : w.grownBy w' g.ownBlock)
    (ha : g'.ownBlock = g.ownBlock ∨ (g'.ownBlock = some w.heap.size ∧ w.grownBy w' none)) : Pair M w' base e s k n v g' (m + 1) := by
  obtain ⟨A, c, hv, hA, hr⟩ := h.rd
  refine ⟨by have := h.le; omega, ho, A, c, hv, hA, ?_⟩
  rcases ha with ha | ⟨_, ha⟩
  · by_cases hn : 0 < n
    · by_cases heq : v.ownBlock = g.ownBlock
      · obtain ⟨b, rfl⟩ := hA hn
        refine ⟨hr.1, fun _ => ⟨_, rfl, by rw [hv]; rfl, fun j u hu => ?_⟩⟩
        have hb : g'.ownBlock = some b := by rw [ha, ← heq, hv]; rfl
        refine ho.cells hb j u ?_
        have hj : j < n * s := by
          rcases Nat.lt_or_ge j (n * s) with h1 | h1
          · exact h1
          · rw [List.getElem?_eq_none (by rw [mkr_length hM]; exact h1)] at hu; cases hu
        have h2 := mkr_take hM k n (m + 1) (by have := h.le; omega)
        rw [← h2, List.getElem?_take, if_pos hj] at hu
        exact hu
      · exact hr.keep (Keep.of_grown hg) (fun b h1 h2 => heq (by rw [h1, h2]))
    · exact ⟨hr.1, fun h0 => absurd h0 hn⟩
  · exact hr.keep (Keep.of_grown ha) (fun b _ h2 => by cases h2)
theorem Pair.get (hM : Marks M s) (h : Pair M w base e s k n v g m) (i : Nat) (hi : i < m) : ∃ b cap, g = .slice (some ⟨b, 0, none⟩) m cap ∧ ∀ t, t < s → w.cell? ⟨b, i * s + t, none⟩ = (M k i)[t]? := by
  obtain ⟨b, cap, rfl, _, _⟩ := h.own.form (by omega)
  refine ⟨b, cap, rfl, fun t ht => ?_⟩
  rw [h.own.cellAt (i * s + t) (by have : (i + 1) * s ≤ m * s := Nat.mul_le_mul_right _ hi; rw [Nat.add_mul] at this; omega), mkr_at hM k m i t hi ht]
theorem Pair.got (hM : Marks M s) (h : Pair M w base e s k n v g m) (i : Nat) (hi : i < n) : ∃ b c, v = .slice (some ⟨b, 0, none⟩) n c ∧ ∀ t, t < s → w.cell? ⟨b, i * s + t, none⟩ = (M k i)[t]? := by
  obtain ⟨A, c, hv, hA, hr⟩ := h.rd
  obtain ⟨b, rfl⟩ := hA (by omega)
  refine ⟨b, c, hv, fun t ht => ?_⟩
  obtain ⟨ad, h1, _, hc⟩ := hr.2 (by omega)
  injection h1 with h1
  subst h1
  have hl := hM.len k i
  have h3 := mkr_at hM k n i t hi ht
  have h4 := hc (i * s + t) ((M k i)[t]'(by omega)) (by rw [h3]; exact List.getElem?_eq_getElem _)
  have hadd : (⟨b, 0, none⟩ : Addr).add (i * s + t) = ⟨b, i * s + t, none⟩ := by unfold Addr.add; split <;> simp_all
  rw [hadd] at h4
  rw [h4]
  exact (List.getElem?_eq_getElem _).symm
end
/-- A row of one's own whose first i elements bear the marks of list k. -/
def RowA (M : Nat → Nat → List Value) (w : World) (base : Nat) (e : TypeId) (s : Nat) (v : Value) (n k i : Nat) : Prop := ∃ xs, w.ownsW base e s v n xs ∧ xs.take (i * s) = mkr M k i
def Tch (V : Nat → Value) (K : Nat) (b : Nat) : Prop := ∃ j, j < K ∧ (V j).ownBlock = some b
def Fst (V : Nat → Value) (K : Nat) : Prop := ∀ i j, i < K → j < K → i ≠ j → ∀ b, (V i).ownBlock = some b → (V j).ownBlock ≠ some b
theorem two_fst {a b : Value} (h : ∀ k, a.ownBlock = some k → b.ownBlock ≠ some k) : Fst (two_ a b) 2 := by
  intro i j hi hj hij k
  have hc : (i = 0 ∧ j = 1) ∨ (i = 1 ∧ j = 0) := by omega
  rcases hc with ⟨rfl, rfl⟩ | ⟨rfl, rfl⟩
  · exact h k
  · exact fun h1 h2 => h k h2 h1
theorem two_tch {a b : Value} {k : Nat} (h : Tch (two_ a b) 2 k) : a.ownBlock = some k ∨ b.ownBlock = some k := by
  obtain ⟨j, hj, h1⟩ := h
  have hc : j = 0 ∨ j = 1 := by omega
  rcases hc with rfl | rfl
  · exact .inl h1
  · exact .inr h1
/-- While the marks are laid: k lists are done, of the next one m elements. -/
structure InvA (M : Nat → Nat → List Value) (base : Nat) (e : TypeId) (s K : Nat) (V : Nat → Value) (N : Nat → Nat) (w wr : World) (k m : Nat) : Prop where
  keep : Keep (Tch V K) w wr
  rows : ∀ j, j < K → RowA M wr base e s (V j) (N j) j (if j < k then N j else if j = k then m else 0)
section
variable {M : Nat → Nat → List Value} {base s K : Nat} {e : TypeId} {V : Nat → Value} {N : Nat → Nat} {w wr wx : World} {k m : Nat}
theorem InvA.start (h : ∀ j, j < K → ∃ xs, w.ownsW base e s (V j) (N j) xs) : InvA M base e s K V N w w 0 0 :=
  ⟨Keep.refl _ _, fun j hj => by
    obtain ⟨xs, hx⟩ := h j hj
    refine ⟨xs, hx, ?_⟩
    rw [if_neg (by omega), ite_self]
    simp [mkr]⟩
theorem InvA.row (h : InvA M base e s K V N w wr k m) (hk : k < K) : ∃ xs, wr.ownsW base e s (V k) (N k) xs ∧ xs.take (m * s) = mkr M k m := by
  have := h.rows k hk
  rw [if_neg (by omega), if_pos rfl] at this
  exact this
theorem InvA.next (hF : Fst V K) (h : InvA M base e s K V N w wr k m) (hk : k < K) (hS : Keep (fun b => (V k).ownBlock = some b) wr wx) (xs : List Value) (ho : wx.ownsW base e s (V k) (N k) xs) (ht : xs.take ((m + 1) * s) = mkr M k (m + 1)) :
    InvA M base e s K V N w wx k (m + 1) :=
  ⟨h.keep.then hS (fun b _ hb => ⟨k, hk, hb⟩), fun j hj => by
    rcases Decidable.em (j = k) with rfl | hjk
    · rw [if_neg (by omega), if_pos rfl]
      exact ⟨xs, ho, ht⟩
    · obtain ⟨ys, hy, hty⟩ := h.rows j hj
      rw [if_neg hjk] at hty ⊢
      exact ⟨ys, hS.own hy (fun b hb hb2 => hF k j hk hj (fun e => hjk e.symm) b hb2 hb), hty⟩⟩
theorem InvA.done (h : InvA M base e s K V N w wr k (N k)) : InvA M base e s K V N w wr (k + 1) 0 :=
  ⟨h.keep, fun j hj => by
    have := h.rows j hj
    by_cases h1 : j < k
    · rw [if_pos h1] at this
      rw [if_pos (by omega)]
      exact this
    · rw [if_neg h1] at this
      by_cases h2 : j = k
      · subst h2
        rw [if_pos rfl] at this
        rw [if_pos (by omega)]
        exact this
      · rw [if_neg h2] at this
        rw [if_neg (by omega), ite_self]
        exact this⟩
theorem InvA.full (h : InvA M base e s K V N w wr K 0) (j : Nat) (hj : j < K) : wr.ownsW base e s (V j) (N j) (mkr M j (N j)) := by
  obtain ⟨xs, hx, ht⟩ := h.rows j hj
  rw [if_pos hj, List.take_of_length_le (by rw [hx.1]; exact Nat.le_refl _)] at ht
  rw [← ht]
  exact hx
end
/-- While the lists are grown: k are done, G what they grew to, gs the row of these. -/
structure InvB (M : Nat → Nat → List Value) (base : Nat) (e e2 : TypeId) (s K more : Nat) (V : Nat → Value) (N : Nat → Nat) (w w0 wr : World) (k : Nat) (gs : Value) (G : Nat → Value) : Prop where
  keep : Keep (Tch V K) w wr
  size0 : w.heap.size ≤ w0.heap.size
  size : w0.heap.size ≤ wr.heap.size
  low : ∀ j, j < K → ∀ b, (V j).ownBlock = some b → b < w0.heap.size
  done : ∀ j, j < k → Pair M wr base e s j (N j) (V j) (G j) (N j + more)
  todo : ∀ j, k ≤ j → j < K → wr.ownsW base e s (V j) (N j) (mkr M j (N j))
  dis : ∀ i j, i < k → j < K → i ≠ j → ∀ b, (G i).ownBlock = some b → (V j).ownBlock ≠ some b
  dis2 : ∀ i j, i < k → j < k → i ≠ j → ∀ b, (G i).ownBlock = some b → (G j).ownBlock ≠ some b
  gs : wr.ownsW w0.heap.size e2 1 gs k ((List.range k).map G)
/-- While one list grows. -/
structure InvI (M : Nat → Nat → List Value) (base : Nat) (e : TypeId) (s k : Nat) (V : Nat → Value) (N : Nat → Nat) (wr wx : World) (g : Value) (i : Nat) : Prop where
  keep : Keep (fun b => (V k).ownBlock = some b) wr wx
  pair : Pair M wx base e s k (N k) (V k) g (N k + i)
  at_ : g.ownBlock = (V k).ownBlock ∨ ∃ b, g.ownBlock = some b ∧ wr.heap.size ≤ b
section
variable {M : Nat → Nat → List Value} {base s K more : Nat} {e e2 : TypeId} {V : Nat → Value} {N : Nat → Nat} {w w0 wr wx wy wz : World} {k i : Nat} {gs g g' : Value} {G : Nat → Value}
theorem InvB.start (h : InvA M base e s K V N w wr K 0) : InvB M base e e2 s K more V N w wr wr 0 (.slice none 0 0) G :=
  ⟨h.keep, h.keep.size, Nat.le_refl _, fun j hj b hb => own_lt (h.full j hj) b hb, fun j hj => by omega, fun j _ hj => h.full j hj, fun i j hi => by omega, fun i j hi => by omega, own_nil _ _ _ _⟩
theorem InvI.start (h : InvB M base e e2 s K more V N w w0 wr k gs G) (hk : k < K) : InvI M base e s k V N wr wr (V k) 0 :=
  ⟨Keep.refl _ _, Pair.start (h.todo k (Nat.le_refl _) hk), .inl rfl⟩
theorem InvI.below (h : InvI M base e s k V N wr wx g i) (hb : Below wx.heap.size wx wy) : InvI M base e s k V N wr wy g i :=
  ⟨h.keep.below hb, h.pair.keep (Keep.of_below hb (fun _ => False)) (fun _ _ h => h) (fun _ _ h => h), h.at_⟩
theorem InvI.next (hM : Marks M s) (h : InvI M base e s k V N wr wx g i) (ho : wy.ownsW base e s g' (N k + i + 1) (mkr M k (N k + i) ++ M k (N k + i))) (hg : wx.grownBy wy g.ownBlock)
    (ha : g'.ownBlock = g.ownBlock ∨ (g'.ownBlock = some wx.heap.size ∧ wx.grownBy wy none)) : InvI M base e s k V N wr wy g' (i + 1) := by
  refine ⟨h.keep.grown hg (fun b hb e1 => ?_), h.pair.next hM ho hg ha, ?_⟩
  · rcases h.at_ with h1 | ⟨b', h1, hb'⟩
    · rw [← h1]; exact e1
    · rw [h1] at e1
      injection e1 with e1
      omega
  · rcases ha with ha | ⟨ha, _⟩
    · rw [ha]; exact h.at_
    · exact .inr ⟨_, ha, h.keep.size⟩
theorem InvB.gsI (h : InvB M base e e2 s K more V N w w0 wr k gs G) (hk : k < K) (hi : InvI M base e s k V N wr wx g i) : wx.ownsW w0.heap.size e2 1 gs k ((List.range k).map G) :=
  hi.keep.own h.gs (fun b hb hb2 => by have := own_ge h.gs b hb; have := h.low k hk b hb2; omega)
theorem InvB.next (hne : e ≠ e2) (hF : Fst V K) (h : InvB M base e e2 s K more V N w w0 wr k gs G) (hk : k < K) (hi : InvI M base e s k V N wr wx g more)
    (ho : wz.ownsW w0.heap.size e2 1 g' (k + 1) ((List.range k).map G ++ [g])) (hg : Keep (fun b => gs.ownBlock = some b) wx wz) :
    InvB M base e e2 s K more V N w w0 wz (k + 1) g' (fun j => if j = k then g else G j) := by
  have hgx := hi.keep.own h.gs (fun b hb hb2 => by have := own_ge h.gs b hb; have := h.low k hk b hb2; omega)
  have hgl : ∀ j, j < K → ∀ b, (V j).ownBlock = some b → gs.ownBlock ≠ some b := fun j hj b hb hb2 => by
    have := own_ge h.gs b hb2
    have := h.low j hj b hb
    omega
  have hGV : ∀ j, j < k → ∀ b, (G j).ownBlock = some b → (V k).ownBlock ≠ some b := fun j hj b hb => h.dis j k hj hk (by omega) b hb
  have hgV : ∀ j, j < K → j ≠ k → ∀ b, g.ownBlock = some b → (V j).ownBlock ≠ some b := fun j hj hjk b hb hb2 => by
    rcases hi.at_ with h1 | ⟨b', h1, hb'⟩
    · rw [h1] at hb
      exact hF k j hk hj (fun e => hjk e.symm) b hb hb2
    · rw [hb] at h1
      injection h1 with h1
      have := h.low j hj b hb2
      have := h.size
      omega
  have hgG : ∀ j, j < k → ∀ b, g.ownBlock = some b → (G j).ownBlock ≠ some b := fun j hj b hb hb2 => by
    rcases hi.at_ with h1 | ⟨b', h1, hb'⟩
    · rw [h1] at hb
      exact hGV j hj b hb2 hb
    · rw [hb] at h1
      injection h1 with h1
      have := own_lt (h.done j hj).own b hb2
      omega
  refine ⟨?_, h.size0, ?_, h.low, fun j hj => ?_, fun j hj hjK => ?_, fun i j hi hj hij b => ?_, fun i j hi hj hij b => ?_, ?_⟩
  · refine (h.keep.then hi.keep (fun b _ hb => ⟨k, hk, hb⟩)).then hg (fun b hb hb2 => ?_)
    have h1 := own_ge h.gs b hb2
    exfalso
    have h2 := h.size0
    omega
  · have h1 := h.size
    have h2 := hi.keep.size
    have h3 := hg.size
    omega
  · rcases Decidable.em (j = k) with rfl | hjk
    · rw [if_pos rfl]
      exact hi.pair.keep hg (fun b hb hb2 => hgl j hk b hb hb2) (fun b hb hb2 => own_type_ne hi.pair.own hgx hne hb hb2)
    · rw [if_neg hjk]
      have hjk' : j < k := by omega
      have h1 := (h.done j hjk').keep hi.keep (fun b hb hb2 => hF j k (by omega) hk hjk b hb hb2) (fun b hb hb2 => hGV j hjk' b hb hb2)
      exact h1.keep hg (fun b hb hb2 => hgl j (by omega) b hb hb2) (fun b hb hb2 => own_type_ne h1.own hgx hne hb hb2)
  · have h1 := hi.keep.own (h.todo j (by omega) hjK) (fun b hb hb2 => hF j k hjK hk (by omega) b hb hb2)
    exact hg.own h1 (fun b hb hb2 => hgl j hjK b hb hb2)
  · rcases Decidable.em (i = k) with rfl | hik
    · rw [if_pos rfl]
      exact hgV j hj (fun e => hij e.symm) b
    · rw [if_neg hik]
      exact h.dis i j (by omega) hj hij b
  · by_cases hik : i = k
    · subst hik
      rw [if_pos rfl, if_neg (fun e => hij e.symm)]
      exact hgG j (by omega) b
    · rw [if_neg hik]
      by_cases hjk : j = k
      · subst hjk
        rw [if_pos rfl]
        exact fun h1 h2 => hgG i (by omega) b h2 h1
      · rw [if_neg hjk]
        exact h.dis2 i j (by omega) (by omega) hij b
  · rw [List.range_succ, List.map_append]
    simp only [List.map_cons, List.map_nil, if_pos rfl]
    rw [List.map_congr_left (g := G) (fun a ha => if_neg (by have := List.mem_range.1 ha; omega))]
    exact ho
end
end Aps
end Go.Proofs.Ytihgmlcmdpmhhaa
