/- Order: the words on its memory (no walk). -/
import Derived.Test.YtgmanmbicoofgaaDoorFor
import Derived.Test.YtgmanmbicoofgaaDoorSts
namespace Go.Proofs.YtgmanmbicoofgaaDoor
set_option linter.unusedVariables false
set_option linter.unusedSimpArgs false
namespace Ord
open Go.RowKit Mem Grp
/-- A row of one's own that was made with n elements of one cell: block B. -/
def Rw (w : World) (base e B n : Nat) (xs : List Value) : Prop := w.ownsRow base e 1 (.slice (some ⟨B, 0, none⟩) n n) n xs
section
variable {w w' : World} {base e B n : Nat} {xs : List Value}
theorem Rw.cell (h : Rw w base e B n xs) {i : Nat} (hi : i < n) : w.cell? ⟨B, i, none⟩ = xs[i]? := World.ownsRow.cellAt h i (by simpa using hi)
theorem Rw.frozen (h : Rw w base e B n xs) (i : Nat) : w.frozen? ⟨B, i, none⟩ = false := own_frozen h i
theorem Rw.set_ (h : Rw w base e B n xs) {i : Nat} (hi : i < n) (u : Value) : Rw (w.setCell ⟨B, i, none⟩ u) base e B n (xs.set i u) := own_set h hi u
theorem Rw.keep {S : Nat → Prop} (h : Rw w base e B n xs) (hk : Keep S w w') (hS : ¬ S B) : Rw w' base e B n xs := hk.own h (fun k e => by
  have : B = k := by simpa [Value.ownBlock] using e
  subst this
  exact hS)
theorem Rw.lt (h : Rw w base e B n xs) : B < w.heap.size := own_lt h B rfl
theorem Rw.made (w : World) (e n : Nat) (z : Value) (h63 : n ≤ 9223372036854775807) : Rw (w.alloc (.cells (madeCells #[z] n) e)) w.heap.size e w.heap.size n (row n fun _ => z) := by
  refine ⟨by simp [row_len], .inr ⟨w.heap.size, n, _, rfl, Nat.le_refl _, heap_alloc_new w _, Nat.le_refl _, by simp only [maxLen]; omega, by rw [size_madeCells]; simp, ?_⟩⟩
  rw [toList_madeCells_one, row_ext (n := n) (f := fun _ => z) (l := List.replicate n z) (by simp) (fun i hi => by simp [hi]), List.take_of_length_le (by simp [row_len])]
theorem Rw.rebase (h : Rw w base e B n xs) {base' : Nat} (hb : base' ≤ B) : Rw w base' e B n xs := own_rebase h (fun k e => by
  have : B = k := by simpa [Value.ownBlock] using e
  omega)
end
theorem ints_row (n : Nat) (f : Nat → Nat) : ints (row n f) = row n fun i => .int .i64 (f i : Int) := by
  unfold ints row
  rw [List.map_map]
  rfl
/-- Who stands behind whom: rows of their own, apart. -/
structure Beh (w : World) (b1 : Nat) (V : Nat → Value) (L : Nat → List Nat) (n : Nat) : Prop where
  own : ∀ i, i < n → w.ownsRow b1 3 1 (V i) (L i).length (ints (L i))
  ne : ∀ i j, i < n → j < n → i ≠ j → ∀ b, (V i).ownBlock = some b → (V j).ownBlock ≠ some b
section
variable {w w' : World} {b1 n : Nat} {V : Nat → Value} {L : Nat → List Nat}
theorem Beh.start (w : World) (b1 n : Nat) : Beh w b1 (fun _ => .slice none 0 0) (fun _ => []) n :=
  ⟨fun i hi => own_nil w b1 3 1, fun i j _ _ _ b h => by simp [Value.ownBlock] at h⟩
theorem Beh.keep {S : Nat → Prop} (h : Beh w b1 V L n) (hk : Keep S w w') (hS : ∀ k, b1 ≤ k → k < w.heap.size → ¬ S k) : Beh w' b1 V L n :=
  ⟨fun i hi => hk.own (h.own i hi) (fun k e => hS k (own_ge (h.own i hi) k e) (own_lt (h.own i hi) k e)), h.ne⟩
theorem Beh.app {a x : Nat} {v' : Value} (h : Beh w b1 V L n) (ha : a < n) (ho : w'.ownsRow b1 3 1 v' ((L a).length + 1) (ints (L a) ++ [.int .i64 (x : Int)])) (hg : w.grownBy w' (V a).ownBlock)
    (hat : v'.ownBlock = (V a).ownBlock ∨ ∃ b, v'.ownBlock = some b ∧ w.heap.size ≤ b) : Beh w' b1 (fun i => if i = a then v' else V i) (fun i => if i = a then L a ++ [x] else L i) n := by
  have hne : ∀ j, j < n → j ≠ a → ∀ b, v'.ownBlock = some b → (V j).ownBlock ≠ some b := by
    intro j hj hja b hb hvj
    rcases hat with h1 | ⟨b', h1, h2⟩
    · exact h.ne a j ha hj (fun e => hja e.symm) b (h1 ▸ hb) hvj
    · rw [h1] at hb
      injection hb with hb
      have := own_lt (h.own j hj) b hvj
      omega
  refine ⟨fun i hi => ?_, fun i j hi hj hij b => ?_⟩
  · by_cases e : i = a
    · simp only [if_pos e]
      have hi2 : ints (L a ++ [x]) = ints (L a) ++ [.int .i64 (x : Int)] := by simp [ints]
      rw [List.length_append, hi2]
      exact ho
    · simp only [if_neg e]
      exact (Keep.of_grown hg).own (h.own i hi) (fun k hk e2 => h.ne a i ha hi (fun e' => e e'.symm) k e2 hk)
  · show (if i = a then v' else V i).ownBlock = some b → (if j = a then v' else V j).ownBlock ≠ some b
    by_cases e : i = a
    · rw [if_pos e, if_neg (by omega)]
      exact hne j hj (by omega) b
    · rw [if_neg e]
      by_cases e2 : j = a
      · rw [if_pos e2]
        exact fun h1 h2 => hne i hi e b h2 h1
      · rw [if_neg e2]
        exact h.ne i j hi hj hij b
end
theorem beh_next (ps : List (Nat × Nat)) (k a b : Nat) (h : ps.take (k + 1) = ps.take k ++ [(a, b)]) : (fun i => if i = a then beh (ps.take k) a ++ [b] else beh (ps.take k) i) = beh (ps.take (k + 1)) := by
  funext i
  rw [h, beh_snoc]
  by_cases e : i = a
  · subst e
    simp
  · simp [e, show ¬ a = i from fun h => e h.symm]
theorem under2 : Tryd.prog.underlying 35 = some (.slice 23) := by kernel_rfl
theorem info2 : (Tryd.prog.info? 23).map (fun i => (i.zero, i.size, i.bytes)) = some (some (.slice none 0 0), 1, 24) := by kernel_rfl
theorem underB : Tryd.prog.underlying 118 = some (.slice 4) := by kernel_rfl
theorem infoB : (Tryd.prog.info? 4).map (fun i => (i.zero, i.size, i.bytes)) = some (some (.bool false), 1, 1) := by kernel_rfl
end Ord
end Go.Proofs.YtgmanmbicoofgaaDoor
