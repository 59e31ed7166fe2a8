/- Rows of one's own whose block may be longer than their capacity: a slice that was cut to its length. -/
import Derived.WalkKit
import Derived.Below
import Derived.Maps.AppendAt
import Derived.Deep.AppendLies
import Derived.Laws.OwnMore
namespace Go
/-- As the library's ownsRow; the block may hold more than the capacity tells. -/
def World.ownsW (w : World) (base : Nat) (e : TypeId) (size : Nat) (v : Value) (n : Nat) (xs : List Value) : Prop :=
  xs.length = n * size ∧ ((v = .slice none 0 0 ∧ n = 0) ∨
    ∃ g cap cur, v = .slice (some ⟨g, 0, none⟩) n cap ∧ base ≤ g ∧ w.heap[g]? = some (.cells cur e (0, 0)) ∧ n ≤ cap ∧ cap ≤ maxLen ∧ cap * size ≤ cur.size ∧ cur.toList.take (n * size) = xs)
section
variable {w : World} {base : Nat} {e : TypeId} {size : Nat} {v : Value} {n : Nat} {xs : List Value}
theorem World.ownsRow.toW (h : w.ownsRow base e size v n xs) : w.ownsW base e size v n xs := by
  obtain ⟨h1, h2 | ⟨g, cap, cur, a, b, c, d, f, i, j⟩⟩ := h
  · exact ⟨h1, .inl h2⟩
  · exact ⟨h1, .inr ⟨g, cap, cur, a, b, c, d, f, Nat.le_of_eq i.symm, j⟩⟩
theorem World.ownsW_nil (w : World) (base : Nat) (e : TypeId) (size : Nat) : w.ownsW base e size (.slice none 0 0) 0 [] := (World.ownsRow_nil w base e size).toW
theorem World.ownsW.kept {w' : World} {row : Option Nat} (h : w.ownsW base e size v n xs) (hg : w.grownBy w' row) (hne : v.ownBlock = none ∨ v.ownBlock ≠ row) : w'.ownsW base e size v n xs := by
  obtain ⟨h1, h2 | ⟨g, cap, cur, rfl, b, c, r⟩⟩ := h
  · exact ⟨h1, .inl h2⟩
  · refine ⟨h1, .inr ⟨g, cap, cur, rfl, b, ?_, r⟩⟩
    rw [hg.block g (Array.getElem?_eq_some_iff.1 c).1 (by simpa [Value.ownBlock] using hne)]
    exact c
theorem World.ownsW.alloc (h : w.ownsW base e size v n xs) (o : Obj) : (w.alloc o).ownsW base e size v n xs :=
  h.kept (World.grownBy_alloc w o none) (by cases hv : v.ownBlock <;> simp)
theorem World.ownsW.cells (h : w.ownsW base e size v n xs) {g : Nat} (hg : v.ownBlock = some g) : ∀ j u, xs[j]? = some u → w.cell? ((⟨g, 0, none⟩ : Addr).add j) = some u := by
  intro j u hu
  obtain ⟨_, ⟨rfl, _⟩ | ⟨g', cap, cur, rfl, _, c, _, _, _, ht⟩⟩ := h
  · simp [Value.ownBlock] at hg
  · simp [Value.ownBlock] at hg
    subst hg
    have ha : (⟨g', 0, none⟩ : Addr).add j = ⟨g', j, none⟩ := by unfold Addr.add; split <;> simp_all
    rw [ha, cell_of_row w g' j cur e (0, 0) c]
    rw [← ht, List.getElem?_take] at hu
    split at hu
    · simpa using hu
    · cases hu
theorem World.ownsW.form (h : w.ownsW base e size v n xs) (hn : 0 < n) : ∃ g cap, v = .slice (some ⟨g, 0, none⟩) n cap ∧ base ≤ g ∧ g < w.heap.size := by
  obtain ⟨_, ⟨_, h0⟩ | ⟨g, cap, cur, a, b, c, _⟩⟩ := h
  · omega
  · exact ⟨g, cap, a, b, (Array.getElem?_eq_some_iff.1 c).1⟩
variable {g cap : Nat}
theorem World.ownsW.cellAt (h : w.ownsW base e size (.slice (some ⟨g, 0, none⟩) n cap) n xs) (j : Nat) (hj : j < n * size) : w.cell? ⟨g, j, none⟩ = xs[j]? := by
  obtain ⟨_, ⟨a, _⟩ | ⟨g', cap', cur, a, _, c, _, _, _, ht⟩⟩ := h
  · simp at a
  · simp only [Value.slice.injEq, Option.some.injEq, Addr.mk.injEq, and_true, true_and] at a
    obtain ⟨rfl, rfl⟩ := a
    rw [cell_of_row w g j cur e (0, 0) c, ← ht, List.getElem?_take, if_pos hj]
    simp
theorem World.ownsW.frozenAt (h : w.ownsW base e size (.slice (some ⟨g, 0, none⟩) n cap) n xs) (j : Nat) : w.frozen? ⟨g, j, none⟩ = false := by
  obtain ⟨_, ⟨a, _⟩ | ⟨g', cap', cur, a, _, c, _⟩⟩ := h
  · simp at a
  · simp only [Value.slice.injEq, Option.some.injEq, Addr.mk.injEq, and_true, true_and] at a
    obtain ⟨rfl, rfl⟩ := a
    simp [World.frozen?, c]
theorem World.ownsW.stored (h : w.ownsW base e size (.slice (some ⟨g, 0, none⟩) n cap) n xs) (j : Nat) (u : Value) :
    (w.setCell ⟨g, j, none⟩ u).ownsW base e size (.slice (some ⟨g, 0, none⟩) n cap) n (xs.set j u) ∧ w.grownBy (w.setCell ⟨g, j, none⟩ u) (some g) := by
  obtain ⟨h1, ⟨a, _⟩ | ⟨g', cap', cur, a, b, c, d, f, i, ht⟩⟩ := h
  · simp at a
  · simp only [Value.slice.injEq, Option.some.injEq, Addr.mk.injEq, and_true, true_and] at a
    obtain ⟨rfl, rfl⟩ := a
    refine ⟨⟨by simpa using h1, .inr ⟨g, cap, cur.setIfInBounds j u, rfl, b, heap_setCell_same w g j cur e u c, d, f, by simpa using i, ?_⟩⟩,
      ⟨rfl, rfl, rfl, by simp, fun k _ hk => heap_setCell_other w ⟨g, j, none⟩ k u (fun e => hk (by simp [e]))⟩⟩
    rw [Array.toList_setIfInBounds, ← ht, List.take_set]
/-- Cut to its length: 'x[:n:n]', also to a shorter one. -/
theorem World.ownsW.trim (h : w.ownsW base e size (.slice (some ⟨g, 0, none⟩) n cap) n xs) (m : Nat) (hm : m ≤ n) : w.ownsW base e size (.slice (some ⟨g, 0, none⟩) m m) m (xs.take (m * size)) := by
  obtain ⟨h1, ⟨a, _⟩ | ⟨g', cap', cur, a, b, c, d, f, i, ht⟩⟩ := h
  · simp at a
  · simp only [Value.slice.injEq, Option.some.injEq, Addr.mk.injEq, and_true, true_and] at a
    obtain ⟨rfl, rfl⟩ := a
    have hms : m * size ≤ n * size := Nat.mul_le_mul_right _ hm
    refine ⟨by rw [List.length_take, h1]; omega, .inr ⟨g, m, cur, rfl, b, c, Nat.le_refl _, by omega, Nat.le_trans (Nat.mul_le_mul_right _ (by omega)) i, ?_⟩⟩
    rw [← ht, List.take_take, Nat.min_eq_left hms]
end
end Go
