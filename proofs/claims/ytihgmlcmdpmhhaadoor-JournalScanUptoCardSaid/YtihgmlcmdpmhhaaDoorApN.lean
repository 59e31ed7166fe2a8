/- Rows of one's own whose block may be longer than their capacity: a slice that was cut to its length. -/
import Derived.WalkKit
import Derived.Below
import Derived.Maps.AppendAt
import Derived.Deep.AppendLies
import Derived.Laws.OwnMore
import Derived.Deep.Draws
import Derived.Deep.LoopGhost
import Derived.Deep.OwnRows
import Derived.Laws.BytesArg
import Derived.WalkSpells
import Derived.Lib.AppendStr
import Derived.Deep.DeepAppendWide
import Derived.Laws.IdiomStrings
import Derived.Test.YtihgmlcmdpmhhaaDoorProg
import Derived.Outline
import Derived.Deep.QuietTactic
import Derived.BigQuiet
import Derived.Deep.RegionHeldLaw
namespace Go
/-- As the library's ownsRow; the block may hold more than the capacity tells. -/
def World.ownsW (w : World) (base : Nat) (e : TypeId) (size : Nat) (v : Value) (n : Nat) (xs : List Value) : Prop :=
  xs.length = n * size ∧ ((v = .slice none 0 0 ∧ n = 0) ∨
    ∃ g cap cur, v = .slice (some ⟨g, 0, none⟩) n cap ∧ base ≤ g ∧ w.heap[g]? = some (.cells cur e (0, 0)) ∧ n ≤ cap ∧ cap ≤ maxLen ∧ cap * size ≤ cur.size ∧ cur.toList.take (n * size) = xs)
section
variable {w : World} {base : Nat} {e : TypeId} {size : Nat} {v : Value} {n : Nat} {xs : List Value}
theorem World.ownsRow.toW (h : w.ownsRow base e size v n xs) : w.ownsW base e size v n xs := by
  obtain ⟨h1, h2 | ⟨g, cap, cur, a, b, c, d, f, i, j⟩⟩ := h
  · exact ⟨h1, .inl h2⟩
  · exact ⟨h1, .inr ⟨g, cap, cur, a, b, c, d, f, Nat.le_of_eq i.symm, j⟩⟩
theorem World.ownsW_nil (w : World) (base : Nat) (e : TypeId) (size : Nat) : w.ownsW base e size (.slice none 0 0) 0 [] := (World.ownsRow_nil w base e size).toW
theorem World.ownsW.kept {w' : World} {row : Option Nat} (h : w.ownsW base e size v n xs) (hg : w.grownBy w' row) (hne : v.ownBlock = none ∨ v.ownBlock ≠ row) : w'.ownsW base e size v n xs := by
  obtain ⟨h1, h2 | ⟨g, cap, cur, rfl, b, c, r⟩⟩ := h
  · exact ⟨h1, .inl h2⟩
  · refine ⟨h1, .inr ⟨g, cap, cur, rfl, b, ?_, r⟩⟩
    rw [hg.block g (Array.getElem?_eq_some_iff.1 c).1 (by simpa [Value.ownBlock] using hne)]
    exact c
theorem World.ownsW.alloc (h : w.ownsW base e size v n xs) (o : Obj) : (w.alloc o).ownsW base e size v n xs :=
  h.kept (World.grownBy_alloc w o none) (by cases hv : v.ownBlock <;> simp)
theorem World.ownsW.cells (h : w.ownsW base e size v n xs) {g : Nat} (hg : v.ownBlock = some g) : ∀ j u, xs[j]? = some u → w.cell? ((⟨g, 0, none⟩ : Addr).add j) = some u := by
  intro j u hu
  obtain ⟨_, ⟨rfl, _⟩ | ⟨g', cap, cur, rfl, _, c, _, _, _, ht⟩⟩ := h
  · simp [Value.ownBlock] at hg
  · simp [Value.ownBlock] at hg
    subst hg
    have ha : (⟨g', 0, none⟩ : Addr).add j = ⟨g', j, none⟩ := by unfold Addr.add; split <;> simp_all
    rw [ha, cell_of_row w g' j cur e (0, 0) c]
    rw [← ht, List.getElem?_take] at hu
    split at hu
    · simpa using hu
    · cases hu
theorem World.ownsW.form (h : w.ownsW base e size v n xs) (hn : 0 < n) : ∃ g cap, v = .slice (some ⟨g, 0, none⟩) n cap ∧ base ≤ g ∧ g < w.heap.size := by
  obtain ⟨_, ⟨_, h0⟩ | ⟨g, cap, cur, a, b, c, _⟩⟩ := h
  · omega
  · exact ⟨g, cap, a, b, (Array.getElem?_eq_some_iff.1 c).1⟩
variable {g cap : Nat}
theorem World.ownsW.cellAt (h : w.ownsW base e size (.slice (some ⟨g, 0, none⟩) n cap) n xs) (j : Nat) (hj : j < n * size) : w.cell? ⟨g, j, none⟩ = xs[j]? := by
  obtain ⟨_, ⟨a, _⟩ | ⟨g', cap', cur, a, _, c, _, _, _, ht⟩⟩ := h
  · simp at a
  · simp only [Value.slice.injEq, Option.some.injEq, Addr.mk.injEq, and_true, true_and] at a
    obtain ⟨rfl, rfl⟩ := a
    rw [cell_of_row w g j cur e (0, 0) c, ← ht, List.getElem?_take, if_pos hj]
    simp
theorem World.ownsW.frozenAt (h : w.ownsW base e size (.slice (some ⟨g, 0, none⟩) n cap) n xs) (j : Nat) : w.frozen? ⟨g, j, none⟩ = false := by
  obtain ⟨_, ⟨a, _⟩ | ⟨g', cap', cur, a, _, c, _⟩⟩ := h
  · simp at a
  · simp only [Value.slice.injEq, Option.some.injEq, Addr.mk.injEq, and_true, true_and] at a
    obtain ⟨rfl, rfl⟩ := a
    simp [World.frozen?, c]
theorem World.ownsW.stored (h : w.ownsW base e size (.slice (some ⟨g, 0, none⟩) n cap) n xs) (j : Nat) (u : Value) :
    (w.setCell ⟨g, j, none⟩ u).ownsW base e size (.slice (some ⟨g, 0, none⟩) n cap) n (xs.set j u) ∧ w.grownBy (w.setCell ⟨g, j, none⟩ u) (some g) := by
  obtain ⟨h1, ⟨a, _⟩ | ⟨g', cap', cur, a, b, c, d, f, i, ht⟩⟩ := h
  · simp at a
  · simp only [Value.slice.injEq, Option.some.injEq, Addr.mk.injEq, and_true, true_and] at a
    obtain ⟨rfl, rfl⟩ := a
    refine ⟨⟨by simpa using h1, .inr ⟨g, cap, cur.setIfInBounds j u, rfl, b, heap_setCell_same w g j cur e u c, d, f, by simpa using i, ?_⟩⟩,
      ⟨rfl, rfl, rfl, by simp, fun k _ hk => heap_setCell_other w ⟨g, j, none⟩ k u (fun e => hk (by simp [e]))⟩⟩
    rw [Array.toList_setIfInBounds, ← ht, List.take_set]
/-- Cut to its length: 'x[:n:n]', also to a shorter one. -/
theorem World.ownsW.trim (h : w.ownsW base e size (.slice (some ⟨g, 0, none⟩) n cap) n xs) (m : Nat) (hm : m ≤ n) : w.ownsW base e size (.slice (some ⟨g, 0, none⟩) m m) m (xs.take (m * size)) := by
  obtain ⟨h1, ⟨a, _⟩ | ⟨g', cap', cur, a, b, c, d, f, i, ht⟩⟩ := h
  · simp at a
  · simp only [Value.slice.injEq, Option.some.injEq, Addr.mk.injEq, and_true, true_and] at a
    obtain ⟨rfl, rfl⟩ := a
    have hms : m * size ≤ n * size := Nat.mul_le_mul_right _ hm
    refine ⟨by rw [List.length_take, h1]; omega, .inr ⟨g, m, cur, rfl, b, c, Nat.le_refl _, by omega, Nat.le_trans (Nat.mul_le_mul_right _ (by omega)) i, ?_⟩⟩
    rw [← ht, List.take_take, Nat.min_eq_left hms]
end
end Go
/-
  Words on memory for this seat's walks: a frame relation 'Keep', a block known whole, a slice that is read, a slice that is owned.
-/
namespace Go.Proofs.YtihgmlcmdpmhhaaDoor
set_option linter.unusedVariables false
namespace Mem
open Go.RowKit

/-- A fact laid aside: the walk's simp does not look into it. -/
structure Held (p : Prop) : Prop where mk :: (out : p)

/-- From w to w' the blocks of S alone may have turned; the streams are as they were; no block has gone. -/
structure Keep (S : Nat → Prop) (w w' : World) : Prop where
  os : w'.os = w.os
  tape : w'.tape = w.tape
  output : w'.output = w.output
  size : w.heap.size ≤ w'.heap.size
  block : ∀ k, k < w.heap.size → ¬ S k → w'.heap[k]? = w.heap[k]?

section
variable {S T : Nat → Prop} {w w' w'' : World}
theorem Keep.refl (S : Nat → Prop) (w : World) : Keep S w w := ⟨rfl, rfl, rfl, Nat.le_refl _, fun _ _ _ => rfl⟩
theorem Keep.trans (h : Keep S w w') (k : Keep S w' w'') : Keep S w w'' :=
  ⟨k.os.trans h.os, k.tape.trans h.tape, k.output.trans h.output, Nat.le_trans h.size k.size, fun i hi hs => (k.block i (Nat.lt_of_lt_of_le hi h.size) hs).trans (h.block i hi hs)⟩
/-- The second step may turn more, if what more it turns is new. -/
theorem Keep.then (h : Keep S w w') (k : Keep T w' w'') (hT : ∀ i, i < w.heap.size → T i → S i) : Keep S w w'' :=
  ⟨k.os.trans h.os, k.tape.trans h.tape, k.output.trans h.output, Nat.le_trans h.size k.size, fun i hi hs => (k.block i (Nat.lt_of_lt_of_le hi h.size) (fun ht => hs (hT i hi ht))).trans (h.block i hi hs)⟩
theorem Keep.mono (h : Keep S w w') (hS : ∀ i, i < w.heap.size → S i → T i) : Keep T w w' := ⟨h.os, h.tape, h.output, h.size, fun i hi hs => h.block i hi (fun hs' => hs (hS i hi hs'))⟩
theorem Keep.drew (h : Keep S w w') : Keep S w w'.drew := ⟨h.os, h.tape, h.output, h.size, h.block⟩
theorem Keep.drewN (h : Keep S w w') (n : Nat) : Keep S w (w'.drewN n) := ⟨h.os, h.tape, h.output, h.size, h.block⟩
theorem Keep.alloc (h : Keep S w w') (o : Obj) : Keep S w (w'.alloc o) :=
  ⟨h.os, h.tape, h.output, by simp; have := h.size; omega, fun i hi hs => by rw [Below.heap_alloc _ _ _ (by have := h.size; omega)]; exact h.block i hi hs⟩
theorem Keep.setCell (h : Keep S w w') {p : Addr} (hp : p.block < w.heap.size → S p.block) (u : Value) : Keep S w (w'.setCell p u) :=
  ⟨h.os, h.tape, h.output, by simp [World.setCell]; exact h.size, fun i hi hs => by rw [Below.heap_setCell _ _ _ _ (fun e => by subst e; exact hs (hp hi))]; exact h.block i hi hs⟩
theorem Keep.of_grown {row : Option Nat} (h : w.grownBy w' row) : Keep (fun k => row = some k) w w' := ⟨h.os, h.tape, h.output, h.size, fun i hi hs => h.block i hi (fun e => hs e.symm)⟩
theorem Keep.grown (h : Keep S w w') {row : Option Nat} (hg : w'.grownBy w'' row) (hr : ∀ k, k < w.heap.size → row = some k → S k) : Keep S w w'' := h.then (Keep.of_grown hg) hr
theorem Keep.of_below (h : Below w.heap.size w w') (S : Nat → Prop) : Keep S w w' := ⟨h.os, h.tape, h.output, h.size, fun i hi _ => h.block i hi⟩
theorem Keep.below (h : Keep S w w') (hb : Below w'.heap.size w' w'') : Keep S w w'' := h.trans (Keep.of_below hb S)
theorem Keep.to_below (h : Keep S w w') (hS : ∀ i, i < w.heap.size → ¬ S i) : Below w.heap.size w w' := ⟨h.os, h.tape, h.output, h.size, fun i hi => h.block i hi (hS i hi)⟩
theorem Keep.to_grown {row : Option Nat} (h : Keep S w w') (hS : ∀ i, i < w.heap.size → S i → row = some i) : w.grownBy w' row :=
  ⟨h.os, h.tape, h.output, h.size, fun i hi hne => h.block i hi (fun hs => hne (hS i hi hs).symm)⟩
theorem Keep.cell (h : Keep S w w') {a : Addr} {v : Value} (hc : w.cell? a = some v) (hs : ¬ S a.block) : w'.cell? a = some v :=
  (World.cell?_of_block (w := w) (h.block a.block (World.block_lt_of_cell? w a hc) hs)).trans hc
theorem Keep.frozen (h : Keep S w w') {a : Addr} (ha : a.block < w.heap.size) (hs : ¬ S a.block) : w'.frozen? a = w.frozen? a :=
  World.frozen?_of_block (w := w) (h.block a.block ha hs)
theorem Keep.own (h : Keep S w w') {base e size n : Nat} {v : Value} {xs : List Value} (ho : w.ownsW base e size v n xs) (hs : ∀ k, v.ownBlock = some k → ¬ S k) : w'.ownsW base e size v n xs := by
  obtain ⟨h1, h2⟩ := ho
  refine ⟨h1, ?_⟩
  rcases h2 with h2 | ⟨g, cap, cur, rfl, hg, hh, r⟩
  · exact .inl h2
  · refine .inr ⟨g, cap, cur, rfl, hg, ?_, r⟩
    rw [h.block g (Array.getElem?_eq_some_iff.1 hh).1 (hs g rfl)]
    exact hh
end

/-- Block g is just these cells, of element type t, none of them frozen. -/
def Blk (w : World) (g : Nat) (t : TypeId) (cs : Array Value) : Prop := w.heap[g]? = some (.cells cs t (0, 0))
section
variable {w w' : World} {g : Nat} {t : TypeId} {cs : Array Value}
theorem Blk.lt (h : Blk w g t cs) : g < w.heap.size := (Array.getElem?_eq_some_iff.1 h).1
theorem Blk.cell (h : Blk w g t cs) (i : Nat) : w.cell? ⟨g, i, none⟩ = cs[i]? := cell_of_row w g i cs t (0, 0) h
theorem Blk.frozen (h : Blk w g t cs) (i : Nat) : w.frozen? ⟨g, i, none⟩ = false := by unfold Blk at h; simp [World.frozen?, h]
theorem Blk.new (w : World) (t : TypeId) (cs : Array Value) : Blk (w.alloc (.cells cs t)) w.heap.size t cs := heap_alloc_new w _
theorem Blk.drew (h : Blk w g t cs) : Blk w.drew g t cs := h
theorem Blk.drewN (h : Blk w g t cs) (n : Nat) : Blk (w.drewN n) g t cs := h
theorem Blk.alloc (h : Blk w g t cs) (o : Obj) : Blk (w.alloc o) g t cs := (Below.heap_alloc w o g h.lt).trans h
theorem Blk.set_ (h : Blk w g t cs) (i : Nat) (u : Value) : Blk (w.setCell ⟨g, i, none⟩ u) g t (cs.setIfInBounds i u) := by
  unfold Blk at h ⊢
  simp [World.setCell, Array.getElem?_modify, h]
theorem Blk.far (h : Blk w g t cs) {p : Addr} (hp : g ≠ p.block) (u : Value) : Blk (w.setCell p u) g t cs := (Below.heap_setCell w p u g hp).trans h
theorem Blk.keep {S : Nat → Prop} (h : Blk w g t cs) (hk : Keep S w w') (hs : ¬ S g) : Blk w' g t cs := (hk.block g h.lt hs).trans h
theorem Blk.ne_ {g' : Nat} {t' : TypeId} {cs' : Array Value} (h : Blk w g t cs) (h' : Blk w g' t' cs') (hne : t ≠ t') : g ≠ g' := by
  rintro rfl
  unfold Blk at h h'
  rw [h] at h'
  injection h' with h'
  injection h' with _ ht
  exact hne ht
theorem own_blk_ne {base e size n : Nat} {v : Value} {xs : List Value} (h : w.ownsW base e size v n xs) (hg : Blk w g t cs) (hne : e ≠ t) : v.ownBlock ≠ some g := by
  rcases h.2 with ⟨rfl, _⟩ | ⟨g', cap, cur, rfl, _, hh, _⟩
  · simp [Value.ownBlock]
  · intro he
    have : g' = g := by simpa [Value.ownBlock] using he
    subst this
    exact Blk.ne_ (t := e) hh hg hne rfl
theorem own_lt {base e size n : Nat} {v : Value} {xs : List Value} (h : w.ownsW base e size v n xs) (k : Nat) (hk : v.ownBlock = some k) : k < w.heap.size := by
  rcases h.2 with ⟨rfl, _⟩ | ⟨g, cap, cur, rfl, hb, hh, _⟩
  · simp [Value.ownBlock] at hk
  · have : g = k := by simpa [Value.ownBlock] using hk
    subst this
    exact (Array.getElem?_eq_some_iff.1 hh).1
theorem own_ge {base e size n : Nat} {v : Value} {xs : List Value} (h : w.ownsW base e size v n xs) (k : Nat) (hk : v.ownBlock = some k) : base ≤ k := by
  rcases h.2 with ⟨rfl, _⟩ | ⟨g, cap, cur, rfl, hb, hh, _⟩
  · simp [Value.ownBlock] at hk
  · have : g = k := by simpa [Value.ownBlock] using hk
    omega
theorem own_nil (W : World) (base e size : Nat) : W.ownsW base e size (.slice none 0 0) 0 [] := ⟨by simp, .inl ⟨rfl, rfl⟩⟩
theorem own_empty (W : World) (e size : Nat) : (W.alloc (.cells #[] e)).ownsW W.heap.size e size (.slice (some ⟨W.heap.size, 0, none⟩) 0 0) 0 [] :=
  ⟨by simp, .inr ⟨W.heap.size, 0, #[], rfl, Nat.le_refl _, heap_alloc_new W _, Nat.le_refl _, by simp [maxLen], by simp, by simp⟩⟩
theorem own_rebase {base base' e size n : Nat} {v : Value} {xs : List Value} (h : w.ownsW base e size v n xs) (hb : ∀ k, v.ownBlock = some k → base' ≤ k) : w.ownsW base' e size v n xs := by
  refine ⟨h.1, ?_⟩
  rcases h.2 with h2 | ⟨g, cap, cur, rfl, _, r⟩
  · exact .inl h2
  · exact .inr ⟨g, cap, cur, rfl, hb g rfl, r⟩
end

section
variable {w : World} {base e g n cap : Nat} {xs : List Value}
theorem own_frozen (h : w.ownsW base e 1 (.slice (some ⟨g, 0, none⟩) n cap) n xs) (i : Nat) : w.frozen? ⟨g, i, none⟩ = false := by
  rcases h.2 with ⟨h2, _⟩ | ⟨g', cap', cur, hv, _, hh, _⟩
  · cases h2
  · injection hv with hv _ _
    injection hv with hv
    injection hv with hv _ _
    subst hv
    simp [World.frozen?, hh]
/-- A store into a row of one's own. -/
theorem own_set (h : w.ownsW base e 1 (.slice (some ⟨g, 0, none⟩) n cap) n xs) {i : Nat} (hi : i < n) (u : Value) : (w.setCell ⟨g, i, none⟩ u).ownsW base e 1 (.slice (some ⟨g, 0, none⟩) n cap) n (xs.set i u) := by
  obtain ⟨h1, h2⟩ := h
  refine ⟨by simpa using h1, ?_⟩
  rcases h2 with ⟨h2, _⟩ | ⟨g', cap', cur, hv, hb, hh, hc, hm, hs, ht⟩
  · cases h2
  · injection hv with hv hv2 hv3
    injection hv with hv
    injection hv with hv _ _
    subst hv hv3
    refine .inr ⟨g, cap, cur.setIfInBounds i u, rfl, hb, ?_, hc, hm, by simpa using hs, ?_⟩
    · simp [World.setCell, Array.getElem?_modify, hh]
    · simp only [Nat.mul_one] at ht ⊢
      rw [← ht, Array.toList_setIfInBounds, List.take_set]
end
def nums (k : IntKind) (xs : List Int) : List Value := xs.map fun x => .int k x
theorem nums_length (k : IntKind) (xs : List Int) : (nums k xs).length = xs.length := by simp [nums]
theorem nums_append (k : IntKind) (xs ys : List Int) : nums k (xs ++ ys) = nums k xs ++ nums k ys := by simp [nums]

/-- The slice value v is owned from block base on: a row of numbers. -/
def OwnN (w : World) (base e : Nat) (k : IntKind) (v : Value) (xs : List Int) : Prop := w.ownsW base e 1 v xs.length (nums k xs)
theorem OwnN.slice {w : World} {base e : Nat} {k : IntKind} {v : Value} {xs : List Int} (h : OwnN w base e k v xs) : ∃ A n c, v = .slice A n c ∧ Held (n = xs.length) ∧ n ≤ c := by
  rcases h.2 with ⟨rfl, h0⟩ | ⟨g, cap, cur, rfl, _, _, hc, _⟩
  · exact ⟨none, 0, 0, rfl, ⟨h0.symm⟩, by omega⟩
  · exact ⟨_, _, cap, rfl, ⟨rfl⟩, hc⟩

theorem block_of_add (a : Addr) (n : Nat) : (a.add n).block = a.block := by unfold Addr.add; split <;> rfl
theorem add_of_add (a : Addr) (i j : Nat) : (a.add i).add j = a.add (i + j) := by
  unfold Addr.add
  by_cases hi : i = 0 <;> by_cases hj : j = 0 <;> simp [hi, hj, Nat.add_assoc]
/-- A slice of n elements of so many cells each that reads as the cells xs; its block is one of ok. -/
def RdV (w : World) (ok : Nat → Prop) (size : Nat) (A : Option Addr) (n : Nat) (xs : List Value) : Prop :=
  xs.length = n * size ∧ (0 < n → ∃ ad, A = some ad ∧ ok ad.block ∧ ∀ j u, xs[j]? = some u → w.cell? (ad.add j) = some u)
section
variable {w w' : World} {ok ok' : Nat → Prop} {size n : Nat} {A : Option Addr} {xs : List Value}
theorem RdV.none_ : RdV w ok size A 0 [] := ⟨by simp, fun h => absurd h (by omega)⟩
theorem RdV.keep {S : Nat → Prop} (h : RdV w ok size A n xs) (hk : Keep S w w') (hs : ∀ k, ok k → ¬ S k) : RdV w' ok size A n xs :=
  ⟨h.1, fun hn => by
    obtain ⟨ad, e, hb, hc⟩ := h.2 hn
    exact ⟨ad, e, hb, fun j u hu => hk.cell (hc j u hu) (by rw [block_of_add]; exact hs _ hb)⟩⟩
theorem RdV.mono (h : RdV w ok size A n xs) (hs : ∀ k, ok k → ok' k) : RdV w ok' size A n xs :=
  ⟨h.1, fun hn => by
    obtain ⟨ad, e, hb, hc⟩ := h.2 hn
    exact ⟨ad, e, hs _ hb, hc⟩⟩
theorem RdV.lt (h : RdV w ok size A n xs) (hs : 0 < size) : RdV w (fun k => ok k ∧ k < w.heap.size) size A n xs :=
  ⟨h.1, fun hn => by
    obtain ⟨ad, e, hb, hc⟩ := h.2 hn
    have h0 : 0 < xs.length := by rw [h.1]; exact Nat.mul_pos hn hs
    have := World.block_lt_of_cell? w _ (hc 0 _ (List.getElem?_eq_getElem h0))
    rw [block_of_add] at this
    exact ⟨ad, e, ⟨hb, this⟩, hc⟩⟩
theorem RdV.cut (h : RdV w ok size A n xs) {k cap : Nat} (hk : k ≤ n) (hc : n ≤ cap) :
    RdV w ok size (if cap = k then A else A.map (·.add (k * size))) (n - k) (xs.drop (k * size)) := by
  refine ⟨by rw [List.length_drop, h.1, Nat.sub_mul], fun hn => ?_⟩
  obtain ⟨ad, rfl, hb, hcell⟩ := h.2 (by omega)
  rw [if_neg (by omega)]
  refine ⟨ad.add (k * size), rfl, by rw [block_of_add]; exact hb, fun j u hu => ?_⟩
  rw [add_of_add]
  exact hcell _ u (by rw [← hu, List.getElem?_drop])
theorem RdV.front (h : RdV w ok size A n xs) {k : Nat} (hk : k ≤ n) : RdV w ok size A k (xs.take (k * size)) := by
  refine ⟨by rw [List.length_take, h.1]; exact Nat.min_eq_left (Nat.mul_le_mul_right _ hk), fun hn => ?_⟩
  obtain ⟨ad, rfl, hb, hcell⟩ := h.2 (by omega)
  refine ⟨ad, rfl, hb, fun j u hu => hcell j u ?_⟩
  rw [List.getElem?_take] at hu
  split at hu
  · exact hu
  · cases hu
theorem RdV.of_own {base e : Nat} {v : Value} (h : w.ownsW base e size v n xs) : ∃ A c, v = .slice A n c ∧ n ≤ c ∧ RdV w (fun k => v.ownBlock = some k) size A n xs := by
  rcases h.2 with ⟨rfl, h0⟩ | ⟨g, cap, cur, rfl, hg, hh, hc, r⟩
  · subst h0
    exact ⟨none, 0, rfl, Nat.le_refl _, by have := h.1; simpa using this, fun h => absurd h (by omega)⟩
  · exact ⟨_, cap, rfl, hc, h.1, fun hn => ⟨_, rfl, rfl, h.cells (g := g) rfl⟩⟩
end
/-- A slice that is read: its numbers, whatever its capacity. -/
def RdN (w : World) (ok : Nat → Prop) (k : IntKind) (A : Option Addr) (n : Nat) (xs : List Int) : Prop := RdV w ok 1 A n (nums k xs)
section
variable {w w' : World} {ok ok' : Nat → Prop} {n : Nat} {k : IntKind} {A : Option Addr} {xs : List Int}
theorem RdN.len (h : RdN w ok k A n xs) : xs.length = n := by have := h.1; simpa [nums] using this
theorem RdN.keep {S : Nat → Prop} (h : RdN w ok k A n xs) (hk : Keep S w w') (hs : ∀ k, ok k → ¬ S k) : RdN w' ok k A n xs := RdV.keep h hk hs
theorem RdN.sub {ad : Addr} (h : RdN w ok k (some ad) n xs) {lo up : Nat} (h1 : lo ≤ up) (h2 : up ≤ n) : RdN w ok k (some (ad.add lo)) (up - lo) ((xs.take up).drop lo) := by
  have hf := RdV.front h h2
  have hc := hf.cut h1 (Nat.le_succ up)
  rw [if_neg (by omega)] at hc
  simp only [Nat.mul_one, Option.map_some] at hc
  unfold RdN nums at *
  rw [List.map_drop, List.map_take]
  exact hc
theorem RdN.at_ (h : RdN w ok k A n xs) {i : Nat} (hi : i < n) : ∃ ad, A = some ad ∧ w.cell? (ad.add i) = some (.int k (xs.getD i 0)) := by
  obtain ⟨ad, e, _, hc⟩ := h.2 (by omega)
  refine ⟨ad, e, hc i _ ?_⟩
  have := h.len
  simp [nums, List.getElem?_eq_getElem (show i < xs.length by omega), List.getD_eq_getElem?_getD]
theorem RdN.of_own {base e : Nat} {v : Value} (h : OwnN w base e k v xs) : ∃ A c, v = .slice A xs.length c ∧ xs.length ≤ c ∧ RdN w (fun k => v.ownBlock = some k) k A xs.length xs := RdV.of_own h
end

section
variable {P : Program}
/-- 'xs[m:]': its address, length and capacity behind letters. -/
theorem cutF (t e : TypeId) (kl : IntKind) {size : Nat} (ht : P.underlying t = some (.slice e)) (hi : (P.info? e).map (fun i => i.size) = some size) (A : Option Addr) (n c m : Nat) (hm : m ≤ n) (hc : n ≤ c) :
    ∃ (A' : Option Addr) (n' c' : Nat), Held (n' = n - m) ∧ n' ≤ c' ∧ (∀ W : World, (Instr.slice t (.slice A n c) (some (.int kl (m : Int))) none none).run P W = .ok (.slice A' n' c') W) ∧
      ∀ (w : World) (ok : Nat → Prop) (xs : List Value), RdV w ok size A n xs → RdV w ok size A' n' (xs.drop (m * size)) := by
  obtain ⟨i0, hi, hz⟩ := Option.map_eq_some_iff.1 hi
  refine ⟨if c = m then A else A.map (·.add (m * size)), n - m, c - m, ⟨rfl⟩, by omega, fun W => ?_, fun w ok xs h => h.cut hm hc⟩
  have hel : P.elem t = e := by simp [Program.elem, ht]
  have hu : P.underlying t = some (.slice (P.elem t)) := by rw [hel]; exact ht
  rw [run_slice_l W t A n c hu kl (m : Int) (Int.natCast_nonneg _) (by omega), hel]
  simp [sizeOf, typeInfo, hi, hz, sliced, Result.andThen]
/-- 'xs[l:m]'. -/
theorem cutM (t e : TypeId) (kl kh : IntKind) {size : Nat} (ht : P.underlying t = some (.slice e)) (hi : (P.info? e).map (fun i => i.size) = some size) (A : Option Addr) (n c l m : Nat) (hl : l ≤ m) (hm : m ≤ n) (hc : n ≤ c) :
    ∃ (A' : Option Addr) (n' c' : Nat), Held (n' = m - l) ∧ n' ≤ c' ∧ (∀ W : World, (Instr.slice t (.slice A n c) (some (.int kl (l : Int))) (some (.int kh (m : Int))) none).run P W = .ok (.slice A' n' c') W) ∧
      ∀ (w : World) (ok : Nat → Prop) (xs : List Value), RdV w ok size A n xs → RdV w ok size A' n' ((xs.take (m * size)).drop (l * size)) := by
  obtain ⟨i0, hi, hz⟩ := Option.map_eq_some_iff.1 hi
  refine ⟨if c = l then A else A.map (·.add (l * size)), m - l, c - l, ⟨rfl⟩, by omega, fun W => ?_, fun w ok xs h => (h.front hm).cut hl (by omega)⟩
  have hel : P.elem t = e := by simp [Program.elem, ht]
  have hu : P.underlying t = some (.slice (P.elem t)) := by rw [hel]; exact ht
  rw [run_slice_lh W t A n c hu kl kh (l : Int) (m : Int) (Int.natCast_nonneg _) (by omega) (by omega), hel]
  simp [sizeOf, typeInfo, hi, hz, sliced, Result.andThen]
theorem RdV.nums_drop {w : World} {ok : Nat → Prop} {k : IntKind} {A : Option Addr} {n m : Nat} {xs : List Int} (h : RdV w ok 1 A n ((nums k xs).drop (m * 1))) : RdN w ok k A n (xs.drop m) := by
  unfold RdN nums at *
  rw [List.map_drop]
  rwa [Nat.mul_one] at h
theorem RdV.nums_mid {w : World} {ok : Nat → Prop} {k : IntKind} {A : Option Addr} {n l m : Nat} {xs : List Int} (h : RdV w ok 1 A n (((nums k xs).take (m * 1)).drop (l * 1))) : RdN w ok k A n ((xs.take m).drop l) := by
  unfold RdN nums at *
  rw [List.map_drop, List.map_take]
  rwa [Nat.mul_one, Nat.mul_one] at h
/-- 'string(b)'. -/
theorem cvtS {w : World} {ok : Nat → Prop} {A : Option Addr} {n c : Nat} {xs : List Int} (src dst e : TypeId) (hs : P.underlying src = some (.slice e)) (he : P.underlying e = some (.int .u8)) (hd : P.underlying dst = some .string)
    (h : RdN w ok .u8 A n xs) (hb : ∀ x ∈ xs, 0 ≤ x ∧ x ≤ 255) : (convert src dst (.slice A n c)).run P w = .ok (.string (strOfNums xs)) w := by
  cases A with
  | none =>
    have h0 : n = 0 := by
      rcases Nat.eq_zero_or_pos n with h0 | h0
      · exact h0
      · obtain ⟨_, h, _⟩ := h.2 h0; cases h
    have : xs = [] := List.eq_nil_of_length_eq_zero (by rw [h.len, h0])
    subst this
    exact run_convert_bytes_nil w src e hs he n c dst hd
  | some ad =>
    have hl := h.len
    have := run_convert_bytes_back (P := P) w src dst e ad c (xs.map fun n => UInt8.ofNat n.toNat) hs he hd (fun j hj => by
      have hj' : j < xs.length := by simpa using hj
      obtain ⟨ad', e', hc⟩ := h.at_ (show j < n by omega)
      injection e' with e'
      subst e'
      rw [hc]
      have hb' := hb _ (List.getElem_mem hj')
      simp [List.getD_eq_getElem?_getD, List.getElem?_eq_getElem hj']
      omega)
    simp only [List.length_map, hl] at this
    exact this
end

section
variable {P : Program} (w : World)
theorem run_append_own_wat (base : Nat) (t ty e : TypeId) (i : TypeInfo) (z : Value) (size bytes : Nat) (ht : P.underlying t = some (.slice e)) (hi : P.info? e = some i) (hz : i.zero = some z)
    (hsize : i.size = size) (hby : i.bytes = bytes) (hzs : z.cells.size = size) (hsz : 0 < size)
    (v : Value) (n : Nat) (xs : List Value) (hown : w.ownsW base e size v n xs)
    (a : Addr) (m c : Nat) (news : List Value) (hl : news.length = m * size) (hnews : ∀ j u, news[j]? = some u → w.cell? (a.add j) = some u) (h1 : ∀ u ∈ news, u.oneCell' = true)
    (h63 : n + m ≤ maxLen) (hbytes : ((n + m) + (n + m) / 4 + 192) * bytes ≤ 281474976710656) (hbase : base ≤ w.heap.size) :
    ∃ v' w', (Builtin.append_ #[t, t] ty #[v, .slice (some a) m c]).run P w = .ok v' w' ∧ w'.ownsW base e size v' (n + m) (xs ++ news) ∧ w.grownBy w' v.ownBlock ∧
      (v' = .slice none 0 0 ↔ v = .slice none 0 0 ∧ m = 0) ∧ (v'.ownBlock = v.ownBlock ∨ v'.ownBlock = some w.heap.size) := by
  subst hsize
  subst hby
  have hsmall : n + m ≤ 9223372036854775807 := by simp only [maxLen] at h63; omega
  have hlen : (xs ++ news).length = (n + m) * i.size := by rw [List.length_append, hown.1, hl, Nat.add_mul]
  -- what the growing arm leaves, whatever was there before
  have grown : ∀ (old : Nat), old < n + m → ∀ (row : Option Nat),
      (w.drew.alloc (.cells (xs.toArray ++ news.toArray ++ Builtin.zeroCells z.cells (grownCap w (n + m) old e - (n + m))) e)).ownsW base e i.size
        (.slice (some ⟨w.heap.size, 0, none⟩) (n + m) (grownCap w (n + m) old e)) (n + m) (xs ++ news) ∧
      w.grownBy (w.drew.alloc (.cells (xs.toArray ++ news.toArray ++ Builtin.zeroCells z.cells (grownCap w (n + m) old e - (n + m))) e)) row := by
    intro old ho row
    have hge := grownCap_ge w (n + m) old e
    have hcm : grownCap w (n + m) old e ≤ maxLen := grownCap_le_maxLen w (n + m) old e h63
    refine ⟨⟨hlen, .inr ⟨w.heap.size, _, _, rfl, hbase, heap_alloc_new w.drew _, hge, hcm, ?_, ?_⟩⟩, ⟨rfl, rfl, rfl, by simp, fun k hk _ => by rw [Below.heap_alloc _ _ _ (by simpa using hk)]; rfl⟩⟩
    · refine Nat.le_of_eq (Eq.symm ?_)
      simp only [Array.size_append, List.size_toArray, size_zeroCells, hzs, hown.1, hl, ← Nat.add_mul]
      congr 1
      omega
    · simp only [Array.toList_append, List.append_assoc]
      rw [← List.append_assoc, ← hlen]
      exact List.take_left
  rcases hown.2 with ⟨rfl, rfl⟩ | ⟨g, cap, cur, rfl, hbg, hg, hnc, hcm, hcs, htake⟩
  · have hx : xs = [] := List.eq_nil_of_length_eq_zero (by simpa using hown.1)
    subst hx
    by_cases hm : m = 0
    · subst hm
      have hn : news = [] := List.eq_nil_of_length_eq_zero (by simpa using hl)
      subst hn
      refine ⟨.slice none 0 0, w, ?_, World.ownsW_nil w base e i.size, ⟨rfl, rfl, rfl, Nat.le_refl _, fun _ _ _ => rfl⟩, by simp, Or.inl rfl⟩
      simp [Builtin.append_, run_underlying ht, sizeOf, typeInfo, hi, Builtin.lenOf, Builtin.firstCells, loadCells, loadCellsFrom]
    · have hr := run_append_nil (P := P) w t ty e i z ht hi hz a m c news hl hnews (by omega) (by omega) (by have hb := hbytes; simp only [Nat.zero_add] at hb; exact Nat.le_trans (Nat.mul_le_mul_right _ (by omega)) hb)
      have hgr := grown 0 (by omega) (Value.ownBlock (.slice none 0 0))
      simp only [Nat.zero_add, List.nil_append, Array.empty_append] at hgr ⊢
      exact ⟨_, _, hr, hgr.1, hgr.2, by simp [hm], Or.inr rfl⟩
  · by_cases hroom : n + m ≤ cap
    · have hfit : n * i.size + news.length ≤ cur.size := Nat.le_trans (by rw [hl, ← Nat.add_mul]; exact Nat.mul_le_mul_right _ hroom) hcs
      have hr := run_append_room (P := P) w t ty e i ht hi g n cap cur hg a m c news hl hnews h1 hroom hfit
      refine ⟨_, _, hr, ⟨hlen, .inr ⟨g, cap, _, rfl, hbg, setRow_heap w g cur _ e _ hg, hroom, hcm, ?_, ?_⟩⟩, ⟨rfl, rfl, rfl, by simp, fun k _ hk => setRow_other w g k _ (fun e => hk (by simp [Value.ownBlock, e]))⟩, by simp, Or.inl rfl⟩
      · simp only [List.size_toArray, List.length_append, List.length_take, List.length_drop, Array.length_toList]
        omega
      · rw [htake, ← hlen]
        exact List.take_left
    · have holds : ∀ j u, xs[j]? = some u → w.cell? ((⟨g, 0, none⟩ : Addr).add j) = some u := hown.cells (g := g) rfl
      have hr := run_append_grow (P := P) w t ty e i z ht hi hz ⟨g, 0, none⟩ n cap xs hown.1 holds a m c news hl hnews (by omega) (by omega) (growslice_fits_wide (by omega) hbytes)
      have hgr := grown cap (by omega) (Value.ownBlock (.slice (some ⟨g, 0, none⟩) n cap))
      exact ⟨_, _, hr, hgr.1, hgr.2, by simp, Or.inr rfl⟩


theorem run_append_own_wstr (base : Nat) (t u ty e : TypeId) (i : TypeInfo) (ht : P.underlying t = some (.slice e)) (hu : P.underlying u = some .string) (hi : P.info? e = some i) (hz : i.zero = some (.int .u8 0))
    (hsize : i.size = 1) (hby : i.bytes = 1)
    (v : Value) (n : Nat) (xs : List Value) (hown : w.ownsW base e 1 v n xs) (s : ByteArray)
    (h63 : n + s.size ≤ maxLen) (hbytes : (n + s.size) + (n + s.size) / 4 + 192 ≤ 281474976710656) (hbase : base ≤ w.heap.size) :
    ∃ v' w', (Builtin.append_ #[t, u] ty #[v, .string s]).run P w = .ok v' w' ∧ w'.ownsW base e 1 v' (n + s.size) (xs ++ Lib.strCells s) ∧ w.grownBy w' v.ownBlock ∧
      (v'.ownBlock = v.ownBlock ∨ ∃ b, v'.ownBlock = some b ∧ w.heap.size ≤ b) := by
  have hsmall : n + s.size ≤ 9223372036854775807 := by simp only [maxLen] at h63; omega
  have hxl : xs.length = n := by simpa using hown.1
  have hlen : (xs ++ Lib.strCells s).length = (n + s.size) * 1 := by rw [List.length_append, hxl, Lib.strCells_length, Nat.mul_one]
  have grown : ∀ (old : Nat), old < n + s.size → ∀ (row : Option Nat),
      (w.drew.alloc (.cells (xs.toArray ++ (Lib.strCells s).toArray ++ Builtin.zeroCells (Value.int .u8 0).cells (grownCap w (n + s.size) old e - (n + s.size))) e)).ownsW base e 1
        (.slice (some ⟨w.heap.size, 0, none⟩) (n + s.size) (grownCap w (n + s.size) old e)) (n + s.size) (xs ++ Lib.strCells s) ∧
      w.grownBy (w.drew.alloc (.cells (xs.toArray ++ (Lib.strCells s).toArray ++ Builtin.zeroCells (Value.int .u8 0).cells (grownCap w (n + s.size) old e - (n + s.size))) e)) row := by
    intro old ho row
    have hge := grownCap_ge w (n + s.size) old e
    have hcm : grownCap w (n + s.size) old e ≤ maxLen := grownCap_le_maxLen w (n + s.size) old e h63
    refine ⟨⟨hlen, .inr ⟨w.heap.size, _, _, rfl, hbase, heap_alloc_new w.drew _, hge, hcm, ?_, ?_⟩⟩, ⟨rfl, rfl, rfl, by simp, fun k hk _ => by rw [Below.heap_alloc _ _ _ (by simpa using hk)]; rfl⟩⟩
    · have hz1 : (Value.int IntKind.u8 0).cells.size = 1 := rfl
      simp only [Array.size_append, List.size_toArray, size_zeroCells, hz1, hxl, Lib.strCells_length]
      omega
    · simp only [Array.toList_append, List.append_assoc]
      rw [← List.append_assoc, ← hlen]
      exact List.take_left
  rcases hown.2 with ⟨rfl, rfl⟩ | ⟨g, cap, cur, rfl, hbg, hg, hnc, hcm, hcs, htake⟩
  · have hx : xs = [] := List.eq_nil_of_length_eq_zero hxl
    subst hx
    by_cases hm : s.size = 0
    · have hn : Lib.strCells s = [] := List.eq_nil_of_length_eq_zero (by rw [Lib.strCells_length]; exact hm)
      refine ⟨.slice none 0 0, w, ?_, by rw [hm, hn]; exact World.ownsW_nil w base e 1, ⟨rfl, rfl, rfl, Nat.le_refl _, fun _ _ _ => rfl⟩, .inl rfl⟩
      have hf := Lib.run_firstCells_string (P := P) w 1 s
      rw [hm] at hf
      simp [Builtin.append_, run_underlying ht, run_underlying hu, sizeOf, typeInfo, hi, hsize, Builtin.lenOf, hm, hf]
    · have hr := run_append_nil_string (P := P) w t u ty e i (.int .u8 0) ht hu hi hz s (by omega) (by omega) (by rw [hby]; omega)
      have hgr := grown 0 (by omega) (Value.ownBlock (.slice none 0 0))
      simp only [Nat.zero_add, List.nil_append, Array.empty_append] at hgr ⊢
      have e1 : (s.data.map fun b => Value.int .u8 b.toNat) = (Lib.strCells s).toArray := by
        apply Array.ext'
        simp [Lib.strCells]
      rw [e1] at hr
      exact ⟨_, _, hr, hgr.1, hgr.2, .inr ⟨_, rfl, Nat.le_refl _⟩⟩
  · by_cases hroom : n + s.size ≤ cap
    · have hcs' : cap ≤ cur.size := by simpa using hcs
      have hr := Lib.run_append_room_string (P := P) w t u ty e i ht hu hi hsize g n cap cur hg s hroom (by omega)
      refine ⟨_, _, hr, ⟨hlen, .inr ⟨g, cap, _, rfl, hbg, setRow_heap w g cur _ e _ hg, hroom, hcm, ?_, ?_⟩⟩, ⟨rfl, rfl, rfl, by simp, fun k _ hk => setRow_other w g k _ (fun e => hk (by simp [Value.ownBlock, e]))⟩, .inl rfl⟩
      · simp only [List.size_toArray, List.length_append, List.length_take, List.length_drop, Array.length_toList, Lib.strCells_length]
        omega
      · have ht' : cur.toList.take n = xs := by simpa using htake
        rw [ht', ← hlen]
        exact List.take_left
    · have holds : ∀ j u, xs[j]? = some u → w.cell? ((⟨g, 0, none⟩ : Addr).add j) = some u := hown.cells (g := g) rfl
      have hr := Lib.run_append_grow_string (P := P) w t u ty e i (.int .u8 0) ht hu hi hz ⟨g, 0, none⟩ n cap xs (by rw [hsize]; simpa using hxl) holds s (by omega) (by omega) (by rw [hby]; exact growslice_fits_wide (by omega) (by omega))
      have hgr := grown cap (by omega) (Value.ownBlock (.slice (some ⟨g, 0, none⟩) n cap))
      exact ⟨_, _, hr, hgr.1, hgr.2, .inr ⟨_, rfl, Nat.le_refl _⟩⟩

end
section
variable {P : Program} (w : World)
theorem run_append_of_nil (base : Nat) (t ty e : TypeId) (i : TypeInfo) (size : Nat) (ht : P.underlying t = some (.slice e)) (hi : P.info? e = some i)
    (v : Value) (n : Nat) (xs : List Value) (hown : w.ownsW base e size v n xs) (c : Nat) : (Builtin.append_ #[t, t] ty #[v, .slice none 0 c]).run P w = .ok v w := by
  rcases hown.2 with ⟨rfl, rfl⟩ | ⟨g, cap, cur, rfl, _, _, hnc, _⟩
  · simp [Builtin.append_, run_underlying ht, sizeOf, typeInfo, hi, Builtin.lenOf, Builtin.firstCells]
  · simp [Builtin.append_, run_underlying ht, sizeOf, typeInfo, hi, Builtin.lenOf, Builtin.firstCells, hnc, storeCells]

theorem run_append_any (base : Nat) (t ty e : TypeId) (i : TypeInfo) (z : Value) (size bytes : Nat) (ht : P.underlying t = some (.slice e)) (hi : P.info? e = some i) (hz : i.zero = some z)
    (hsize : i.size = size) (hby : i.bytes = bytes) (hzs : z.cells.size = size) (hsz : 0 < size)
    (v : Value) (n : Nat) (xs : List Value) (hown : w.ownsW base e size v n xs)
    (ok : Nat → Prop) (A : Option Addr) (m c : Nat) (news : List Value) (hr : RdV w ok size A m news) (h1 : ∀ u ∈ news, u.oneCell' = true)
    (h63 : n + m ≤ maxLen) (hbytes : ((n + m) + (n + m) / 4 + 192) * bytes ≤ 281474976710656) (hbase : base ≤ w.heap.size) :
    ∃ v' w', (Builtin.append_ #[t, t] ty #[v, .slice A m c]).run P w = .ok v' w' ∧ w'.ownsW base e size v' (n + m) (xs ++ news) ∧ w.grownBy w' v.ownBlock ∧
      (v'.ownBlock = v.ownBlock ∨ ∃ b, v'.ownBlock = some b ∧ w.heap.size ≤ b) := by
  rcases A with _ | ad
  · have hm : m = 0 := by
      rcases Nat.eq_zero_or_pos m with h0 | h0
      · exact h0
      · obtain ⟨ad, h, _⟩ := hr.2 h0
        cases h
    subst hm
    have hn : news = [] := List.eq_nil_of_length_eq_zero (by simpa using hr.1)
    subst hn
    exact ⟨v, w, run_append_of_nil w base t ty e i size ht hi v n xs hown c, by simpa using hown, World.grownBy.refl w _, .inl rfl⟩
  · have hcells : ∀ j u, news[j]? = some u → w.cell? (ad.add j) = some u := by
      intro j u hu
      rcases Nat.eq_zero_or_pos m with h0 | h0
      · subst h0
        have hn : news = [] := List.eq_nil_of_length_eq_zero (by simpa using hr.1)
        subst hn
        simp at hu
      · obtain ⟨ad', h, _, hc⟩ := hr.2 h0
        injection h with h
        subst h
        exact hc j u hu
    obtain ⟨v', w', hrun, h2, h3, _, h5⟩ := run_append_own_wat (P := P) w base t ty e i z size bytes ht hi hz hsize hby hzs hsz v n xs hown ad m c news hr.1 hcells h1 h63 hbytes hbase
    exact ⟨v', w', hrun, h2, h3, h5.imp id fun h => ⟨_, h, Nat.le_refl _⟩⟩

/-- append(v, x...), behind 'at_builtin'. -/
theorem appS {ops : Array Oper} {rest : List Oper} {o : Oper} {a : Act} {Q : Exit → Act → World → Prop} (base : Nat) (hgd : o.guard = none) (s x : Operand) (t e : TypeId) (z : Value) (size bytes : Nat)
    (ho : o.op = .call { callee := .builtin .append, args := #[s, x], argTypes := #[t, t] })
    (ht : P.underlying t = some (.slice e)) (hinfo : (P.info? e).map (fun i => (i.zero, i.size, i.bytes)) = some (some z, size, bytes)) (hzs : z.cells.size = size) (hsz : 0 < size) (hb0 : 0 < bytes)
    (v : Value) (n : Nat) (xs : List Value) (hs : a.eval s = v) (hown : w.ownsW base e size v n xs)
    (ok : Nat → Prop) (A : Option Addr) (m c : Nat) (news : List Value) (hx : a.eval x = .slice A m c) (hr : RdV w ok size A m news) (h1 : ∀ u ∈ news, u.oneCell' = true)
    (hbytes : ((n + m) + (n + m) / 4 + 192) * bytes ≤ 281474976710656) (hbase : base ≤ w.heap.size)
    (h : ∀ v' w', w'.ownsW base e size v' (n + m) (xs ++ news) → w.grownBy w' v.ownBlock → (v'.ownBlock = v.ownBlock ∨ ∃ b, v'.ownBlock = some b ∧ w.heap.size ≤ b) → wpList P ops Q rest (a.put o.dst v') w') : wpList P ops Q (o :: rest) a w := by
  obtain ⟨i0, hi, hzz⟩ := Option.map_eq_some_iff.1 hinfo
  simp only [Prod.mk.injEq] at hzz
  obtain ⟨hz0, hz1, hz2⟩ := hzz
  have hlen : (n + m) + (n + m) / 4 + 192 ≤ 281474976710656 := Nat.le_trans (Nat.le_mul_of_pos_right _ hb0) hbytes
  refine wpList_plain hgd fun _ hK => ?_
  obtain ⟨v', w', hrun, h2, h3, h4⟩ := run_append_any (P := P) w base t o.type e i0 z size bytes ht hi hz0 hz1 hz2 hzs hsz v n xs hown ok A m c news hr h1 (by simp only [maxLen]; omega) hbytes hbase
  unfold Oper.wp execOp
  simp only [ho, resolve, invoke, builtin, Sem.run_bind, Sem.run_pure, Result.andThen_ok, List.map_toArray, List.map_cons, List.map_nil, hs, hx, hrun]
  exact hK _ _ (h v' w' h2 h3 h4)
end
theorem nums_one (k : IntKind) (xs : List Int) : ∀ u ∈ nums k xs, u.oneCell' = true := by
  intro u hu
  obtain ⟨x, _, rfl⟩ := List.mem_map.1 hu
  rfl
section
variable {P : Program} {ops : Array Oper} {rest : List Oper} {o : Oper} {a : Act} {Q : Exit → Act → World → Prop}
/-- append(v, x) of one value, behind 'at_builtin'. -/
theorem app1 {W : World} (base : Nat) (hgd : o.guard = none) (s x : Operand) (t e : TypeId) (z : Value) (bytes : Nat)
    (ho : o.op = .call { callee := .builtin .append, args := #[s, x], argTypes := #[t, t] })
    (ht : P.underlying t = some (.slice e)) (hinfo : (P.info? e).map (fun i => (i.zero, i.size, i.bytes)) = some (some z, 1, bytes)) (hz : z.cells.size = 1) (hb0 : 0 < bytes)
    (v : Value) (xs : List Value) (y : Value) (hs : a.eval s = v) (hx : a.eval x = .slice (some ⟨W.heap.size, 0, none⟩) 1 1) (h1 : y.oneCell' = true)
    (HO : W.ownsW base e 1 v xs.length xs) (hbase : base ≤ W.heap.size) (hl : ((xs.length + 1) + (xs.length + 1) / 4 + 192) * bytes ≤ 281474976710656)
    (h : ∀ v1 w1, w1.ownsW base e 1 v1 (xs ++ [y]).length (xs ++ [y]) → W.grownBy w1 v.ownBlock → (v1.ownBlock = v.ownBlock ∨ ∃ b, v1.ownBlock = some b ∧ W.heap.size ≤ b) → wpList P ops Q rest (a.put o.dst v1) w1) :
    wpList P ops Q (o :: rest) a (W.alloc (.cells #[y] e)) := by
  refine appS (W.alloc (.cells #[y] e)) base hgd s x t e z 1 bytes ho ht hinfo hz (by omega) hb0 v xs.length xs hs (HO.alloc _) (fun _ => True) (some ⟨W.heap.size, 0, none⟩) 1 1 [y] hx
    ⟨rfl, fun _ => ⟨_, rfl, trivial, World.news_of_block (cs := #[y]) (t := e) (fr := (0, 0)) (heap_alloc_new W _)⟩⟩ (by simpa using h1) hl (by simp; omega) ?_
  intro v1 w1 hown hg hat
  refine h v1 w1 (by simpa using hown) (World.grownBy.trans (World.grownBy_alloc W _ _) hg) ?_
  rcases hat with hat | ⟨b, hat, hb⟩
  · exact .inl hat
  · exact .inr ⟨b, hat, by simp at hb; omega⟩
theorem app1N {W : World} (base : Nat) (hgd : o.guard = none) (s x : Operand) (t e : TypeId) (k : IntKind) (bytes : Nat)
    (ho : o.op = .call { callee := .builtin .append, args := #[s, x], argTypes := #[t, t] })
    (ht : P.underlying t = some (.slice e)) (hinfo : (P.info? e).map (fun i => (i.zero, i.size, i.bytes)) = some (some (.int k 0), 1, bytes)) (hb0 : 0 < bytes)
    (v : Value) (xs : List Int) (y : Int) (hs : a.eval s = v) (hx : a.eval x = .slice (some ⟨W.heap.size, 0, none⟩) 1 1)
    (HO : OwnN W base e k v xs) (hbase : base ≤ W.heap.size) (hl : ((xs.length + 1) + (xs.length + 1) / 4 + 192) * bytes ≤ 281474976710656)
    (h : ∀ v1 w1, OwnN w1 base e k v1 (xs ++ [y]) → W.grownBy w1 v.ownBlock → (v1.ownBlock = v.ownBlock ∨ ∃ b, v1.ownBlock = some b ∧ W.heap.size ≤ b) → wpList P ops Q rest (a.put o.dst v1) w1) :
    wpList P ops Q (o :: rest) a (W.alloc (.cells #[.int k y] e)) :=
  app1 base hgd s x t e (.int k 0) bytes ho ht hinfo rfl hb0 v (nums k xs) (.int k y) hs hx rfl (by rw [nums_length]; exact HO) hbase (by rw [nums_length]; exact hl)
    fun v1 w1 hown hg hat => h v1 w1 (by simpa [OwnN, nums] using hown) hg hat
end
section
variable {P : Program} (w : World)
/-- append(v, s...), s a string. -/
theorem appStr {ops : Array Oper} {rest : List Oper} {o : Oper} {a : Act} {Q : Exit → Act → World → Prop} (base : Nat) (hgd : o.guard = none) (sl x : Operand) (t u e : TypeId)
    (ho : o.op = .call { callee := .builtin .append, args := #[sl, x], argTypes := #[t, u] })
    (ht : P.underlying t = some (.slice e)) (hu : P.underlying u = some .string) (hinfo : (P.info? e).map (fun i => (i.zero, i.size, i.bytes)) = some (some (.int .u8 0), 1, 1))
    (v : Value) (xs : List Int) (hs : a.eval sl = v) (hown : OwnN w base e .u8 v xs) (s : ByteArray) (hx : a.eval x = .string s)
    (hbytes : (xs.length + s.size) + (xs.length + s.size) / 4 + 192 ≤ 281474976710656) (hbase : base ≤ w.heap.size)
    (h : ∀ v' w', OwnN w' base e .u8 v' (xs ++ s.data.toList.map fun b => (b.toNat : Int)) → w.grownBy w' v.ownBlock → (v'.ownBlock = v.ownBlock ∨ ∃ b, v'.ownBlock = some b ∧ w.heap.size ≤ b) → wpList P ops Q rest (a.put o.dst v') w') : wpList P ops Q (o :: rest) a w := by
  obtain ⟨i0, hi, hzz⟩ := Option.map_eq_some_iff.1 hinfo
  simp only [Prod.mk.injEq] at hzz
  obtain ⟨hz0, hz1, hz2⟩ := hzz
  refine wpList_plain hgd fun K hK => ?_
  obtain ⟨v', w', hr, h2, h3, h5⟩ := run_append_own_wstr (P := P) w base t u o.type e i0 ht hu hi hz0 hz1 hz2 v xs.length (nums .u8 xs) hown s (by simp only [maxLen]; omega) hbytes hbase
  unfold Oper.wp execOp
  simp only [ho, resolve, invoke, builtin, Sem.run_bind, Sem.run_pure, Result.andThen_ok, List.map_toArray, List.map_cons, List.map_nil, hs, hx, hr]
  refine hK _ _ (h v' w' ?_ h3 h5)
  have e1 : nums .u8 xs ++ Lib.strCells s = nums .u8 (xs ++ s.data.toList.map fun b => (b.toNat : Int)) := by simp [nums, Lib.strCells]
  have e2 : xs.length + s.size = (xs ++ s.data.toList.map fun b => (b.toNat : Int)).length := by simp
  unfold OwnN
  rw [← e1, ← e2]
  exact h2
end
theorem grownBy.next {w w1 w2 : World} {v v1 : Value} (h : w.grownBy w1 v.ownBlock) (hat : v1.ownBlock = v.ownBlock ∨ ∃ b, v1.ownBlock = some b ∧ w.heap.size ≤ b) (h2 : w1.grownBy w2 v1.ownBlock) : w.grownBy w2 v.ownBlock :=
  ((Keep.of_grown h).then (Keep.of_grown h2) (fun i hi e => by rcases hat with hat | ⟨b, hat, hb⟩ <;> rw [hat] at e <;> first | exact e | (injection e with e; omega))).to_grown (fun _ _ e => e)
theorem grownBy.at_ {w w1 : World} {v v1 v2 : Value} (hs : w.heap.size ≤ w1.heap.size) (hat : v1.ownBlock = v.ownBlock ∨ ∃ b, v1.ownBlock = some b ∧ w.heap.size ≤ b) (h2 : v2.ownBlock = v1.ownBlock ∨ ∃ b, v2.ownBlock = some b ∧ w1.heap.size ≤ b) : v2.ownBlock = v.ownBlock ∨ ∃ b, v2.ownBlock = some b ∧ w.heap.size ≤ b := by
  rcases h2 with h2 | ⟨b, h2, hb⟩
  · rw [h2]; exact hat
  · exact .inr ⟨b, h2, by omega⟩
end Mem
end Go.Proofs.YtihgmlcmdpmhhaaDoor
namespace Go.Proofs.YtihgmlcmdpmhhaaDoor
set_option linter.unusedVariables false
namespace Kit
open Go.RowKit Mem
theorem info_u8 : (Tryd.prog.info? 5).map (fun i => (i.zero, i.size, i.bytes)) = some (some (.int .u8 0), 1, 1) := by kernel_rfl
theorem below_drewN {B : Nat} {a w : World} (h : Below B a w) (n : Nat) : Below B a (w.drewN n) := ⟨h.os, h.tape, h.output, h.size, h.block⟩
theorem info_size : (Tryd.prog.info? 5).map (fun i => i.size) = some 1 := by kernel_rfl

set_option maxHeartbeats 1000000 in
set_option maxRecDepth 100000 in
theorem same_any (ok ok' : Nat → Prop) (A A' : Option Addr) (n n' c c' : Nat) (xs ys : List Int) (w : World) (hr : RdN w ok .u8 A n xs) (hr' : RdN w ok' .u8 A' n' ys) (hl : n ≤ 9223372036854775807) (hl' : n' ≤ 9223372036854775807) :
    Calls Tryd.prog 20 #[.slice A n c, .slice A' n' c'] w fun e w' => e = .returned (.bool (decide (xs = ys))) ∧ ∃ m, w' = w.drewN m := by
  have h1 := Held.mk hr.len
  have h2 := Held.mk hr'.len
  have Hr := Held.mk hr
  have Hr' := Held.mk hr'
  clear hr hr'
  by_cases hn : n = n'
  · subst hn
    have h0 : ((n : Int) != n) = false := by simp
    go_enter Tryd.func20, Tryd.ntmps20
    go_wp2
    go_loopw [5] (fun i wr => ∃ k m : Nat, i = .int .i64 k ∧ k ≤ n ∧ Held (xs.take k = ys.take k) ∧ wr = w.drewN m) (fun i _ => n - (intOf i).toNat)
    case atStart => exact ⟨0, 0, rfl, Nat.zero_le _, ⟨rfl⟩, rfl⟩
    case round =>
      obtain ⟨k, m, rfl, hk, he, rfl⟩ := hrel
      by_cases hlt : k < n
      · obtain ⟨a1, rfl, hc1⟩ := Hr.out.at_ hlt
        obtain ⟨a2, rfl, hc2⟩ := Hr'.out.at_ hlt
        have hk1 : (k : Int) < n := by omega
        have ex : xs.take (k + 1) = xs.take k ++ [xs.getD k 0] := by
          rw [List.take_succ_eq_append_getElem (by rw [h1.out]; exact hlt), List.getD_eq_getElem?_getD, List.getElem?_eq_getElem (by rw [h1.out]; exact hlt)]; rfl
        have ey : ys.take (k + 1) = ys.take k ++ [ys.getD k 0] := by
          rw [List.take_succ_eq_append_getElem (by rw [h2.out]; exact hlt), List.getD_eq_getElem?_getD, List.getElem?_eq_getElem (by rw [h2.out]; exact hlt)]; rfl
        generalize xs.getD k 0 = a at *
        generalize ys.getD k 0 = b at *
        have Ex := Held.mk ex
        have Ey := Held.mk ey
        clear ex ey
        by_cases hab : a = b
        · subst hab
          have hne : (a != a) = false := by simp
          go_wp2
          go_quiet (fail)
          go_wp2
          go_roundw
          case rel => exact ⟨k + 1, _, by go_num, by omega, ⟨by rw [Ex.out, Ey.out, he.out]⟩, rfl⟩
          case measure => simp [intOf]; omega
        · have hne : (a != b) = true := by simpa using hab
          have hfin : Held (decide (xs = ys) = false) := ⟨by
            simp only [decide_eq_false_iff_not]
            intro e
            have := Ex.out.symm.trans ((congrArg (·.take (k + 1)) e).trans Ey.out)
            simp at this
            exact hab this.2⟩
          go_wp2
          go_quiet (fail)
          go_wp2
          go_ret
          rw [hfin.out]
          exact ⟨rfl, _, World.drewN_drewN ..⟩
      · go_wp2
        go_ret
        have : xs = ys := by
          have := he.out
          rwa [List.take_of_length_le (by rw [h1.out]; omega), List.take_of_length_le (by rw [h2.out]; omega)] at this
        rw [this]
        exact ⟨by simp, _, rfl⟩
  · have h0 : ((n : Int) != n') = true := by rw [bne_iff_ne]; omega
    have hfin : Held (decide (xs = ys) = false) := ⟨by
      simp only [decide_eq_false_iff_not]
      intro e
      exact hn (by rw [← h1.out, ← h2.out, e])⟩
    go_enter Tryd.func20, Tryd.ntmps20
    go_wp2
    go_ret
    rw [hfin.out]
    exact ⟨rfl, 0, rfl⟩

def mark (k : Nat) (i : Int) : Int := (37 * ((k : Int) + 1) + i) % 256
theorem mark_any (k : Nat) (i : Int) (w : World) (hk : k ≤ 1000000) (h0 : -1000000000000000 ≤ i) (h1 : i ≤ 1000000000000000) :
    Calls Tryd.prog 24 #[.int .i64 k, .int .i64 i] w fun e w' => e = .returned (.int .u8 (mark k i)) ∧ w = w' := by
  go_enter Tryd.func24, Tryd.ntmps24
  go_wp2
  go_ret
  exact ⟨rfl, rfl⟩
def marks (n : Nat) : List Int := (List.range n).map fun (i : Nat) => mark 90 i
theorem marks_succ (n : Nat) : marks (n + 1) = marks n ++ [mark 90 n] := by simp [marks, List.range_succ]
theorem marks_length (n : Nat) : (marks n).length = n := by simp [marks]

set_option maxHeartbeats 1000000 in
set_option maxRecDepth 100000 in
theorem full_any (ok : Nat → Prop) (A : Option Addr) (n c : Nat) (xs : List Int) (w : World) (hr : RdN w ok .u8 A n xs) (hl : n ≤ 140737488355300) :
    Calls Tryd.prog 16 #[.slice A n c] w fun e w' => ∃ v, e = .returned v ∧ OwnN w' w.heap.size 5 .u8 v (xs ++ marks 16) ∧ Below w.heap.size w w' := by
  have h1 := Held.mk hr.len
  have Hr := Held.mk (hr.lt (by decide))
  clear hr
  go_enter Tryd.func16, Tryd.ntmps16
  go_wp2
  go_loopw [3, 4] (fun v i wr => ∃ k : Nat, i = .int .i64 k ∧ k ≤ n ∧ OwnN wr w.heap.size 5 .u8 v (xs.take k) ∧ Below w.heap.size w wr) (fun _ i _ => n - (intOf i).toNat)
  case atStart => exact ⟨0, rfl, Nat.zero_le _, own_nil _ _ _ _, Below.refl _ _⟩
  case round =>
    obtain ⟨k, rfl, hk, hown, hb⟩ := hrel
    by_cases hlt : k < n
    · have hr' := Hr.out.keep (Keep.of_below hb (fun k => ¬ k < w.heap.size)) (fun k hk => by simp; exact hk.2)
      obtain ⟨ad, rfl, hc⟩ := RdN.at_ hr' hlt
      have ex : xs.take (k + 1) = xs.take k ++ [xs.getD k 0] := by
        rw [List.take_succ_eq_append_getElem (by rw [h1.out]; exact hlt), List.getD_eq_getElem?_getD, List.getElem?_eq_getElem (by rw [h1.out]; exact hlt)]; rfl
      have hlk : (xs.take k).length ≤ k := List.length_take_le _ _
      generalize xs.take k = ys at *
      generalize xs.getD k 0 = a at *
      have Ex := Held.mk ex
      have Hs := Held.mk hb.size
      have HO := Held.mk hown
      clear ex hr' hown
      go_wp2_with (at_builtin; refine app1N w.heap.size rfl (.tmp 12) (.tmp 17) 22 5 .u8 1 rfl Tryd.underlying22 info_u8 (by decide) u3 ys _ rfl rfl HO.out ?c1 ?c2 ?_; (case c1 => exact Hs.out); (case c2 => omega); intro v1 w1 ho1 hg1 hat1)
      go_roundw
      case rel => exact ⟨k + 1, by go_num, by omega, by rw [Ex.out]; exact ho1, hb.grown hg1 hb.size (own_ge HO.out)⟩
      case measure => simp [intOf]; omega
    · have ek : xs.take k = xs := List.take_of_length_le (by rw [h1.out]; omega)
      rw [ek] at hown
      have HO := Held.mk hown
      have HB := Held.mk hb
      clear ek hown hb
      go_wp2
      go_loopw [3, 5] (fun v i w2 => ∃ k : Nat, i = .int .i64 k ∧ k ≤ 16 ∧ OwnN w2 w.heap.size 5 .u8 v (xs ++ marks k) ∧ Below w.heap.size w w2) (fun _ i _ => 16 - (intOf i).toNat)
      case atStart => exact ⟨0, rfl, by omega, by simpa [marks] using HO.out, HB.out⟩
      case round =>
        obtain ⟨j, rfl, hj, hown, hb⟩ := hrel
        have hlj : (xs ++ marks j).length = n + j := by rw [List.length_append, marks_length, h1.out]
        have Hlj := Held.mk hlj
        have Hs := Held.mk hb.size
        have HO := Held.mk hown
        clear hown hlj
        by_cases hlt : j < 16
        · go_wp2_with (first | (go_at_call 24; refine (mark_any 90 _ _ (by omega) (by omega) (by omega)).mono ?_; rintro e w' ⟨rfl, rfl⟩) | (at_builtin; refine app1N w.heap.size rfl (.tmp 23) (.tmp 26) 22 5 .u8 1 rfl Tryd.underlying22 info_u8 (by decide) u3 _ _ rfl rfl HO.out ?c1 ?c2 ?_; (case c1 => exact Hs.out); (case c2 => have := Hlj.out; omega); intro v1 w1 ho1 hg1 hat1))
          go_roundw
          case rel => exact ⟨j + 1, by go_num, by omega, by rw [marks_succ, ← List.append_assoc]; exact ho1, hb.grown hg1 hb.size (own_ge HO.out)⟩
          case measure => simp [intOf]; omega
        · obtain rfl : j = 16 := by omega
          go_wp2
          go_ret
          exact ⟨_, rfl, HO.out, hb⟩

set_option maxHeartbeats 1000000 in
set_option maxRecDepth 100000 in
theorem keptFull_any (ok ok' : Nat → Prop) (A A' : Option Addr) (n c c' m : Nat) (xs : List Int) (w : World) (hm : m = n + 16) (hr : RdN w ok .u8 A m (xs ++ marks 16)) (hr' : RdN w ok' .u8 A' n xs) (hl : n ≤ 140737488355328) :
    Calls Tryd.prog 23 #[.slice A m c, .slice A' n c'] w fun e w' => e = .returned (.bool true) ∧ ∃ m, w' = w.drewN m := by
  have h1 := Held.mk hr'.len
  have Hm := Held.mk hm
  have hm1 : m ≤ n + 16 := by omega
  have hm2 : n + 16 ≤ m := by omega
  have h0 : ((m : Int) != n + 16) = false := by simp; omega
  clear hm
  have Hr := Held.mk hr
  have Hr' := Held.mk hr'
  clear hr hr'
  go_enter Tryd.func23, Tryd.ntmps23
  go_wp2
  go_loopw [5] (fun i wr => ∃ k d : Nat, i = .int .i64 k ∧ k ≤ m ∧ wr = w.drewN d) (fun i _ => m - (intOf i).toNat)
  case atStart => exact ⟨0, 0, rfl, Nat.zero_le _, rfl⟩
  case round =>
    obtain ⟨k, d, rfl, hk, rfl⟩ := hrel
    by_cases hlt : k < m
    · obtain ⟨a1, rfl, hc1⟩ := Hr.out.at_ hlt
      have hk1 : (k : Int) < m := by omega
      by_cases hkn : k < n
      · obtain ⟨a2, rfl, hc2⟩ := Hr'.out.at_ hkn
        have hk2 : (k : Int) < n := by omega
        have e : (xs ++ marks 16).getD k 0 = xs.getD k 0 := by
          rw [List.getD_eq_getElem?_getD, List.getD_eq_getElem?_getD, List.getElem?_append_left (by rw [h1.out]; exact hkn)]
        rw [e] at hc1
        clear e
        generalize xs.getD k 0 = a at *
        have hne : (a != a) = false := by simp
        go_wp2_with (go_at_call 24; refine (mark_any 90 _ _ (by omega) (by omega) (by omega)).mono ?_; rintro e w' ⟨rfl, rfl⟩)
        go_roundw
        case rel => exact ⟨k + 1, _, by go_num, by omega, rfl⟩
        case measure => simp [intOf]; omega
      · have hk2 : (n : Int) ≤ k := by omega
        have e : (xs ++ marks 16).getD k 0 = mark 90 ((k : Int) - n) := by
          rw [List.getD_eq_getElem?_getD, List.getElem?_append_right (by rw [h1.out]; omega), h1.out]
          have : k - n < 16 := by omega
          simp only [marks, List.getElem?_map, List.getElem?_range this, Option.map_some, Option.getD_some]
          congr 1
          omega
        rw [e] at hc1
        clear e
        have hne : (mark 90 ((k : Int) - n) != mark 90 ((k : Int) - n)) = false := by simp
        go_wp2_with (go_at_call 24; refine (mark_any 90 _ _ (by omega) (by omega) (by omega)).mono ?_; rintro e w' ⟨rfl, rfl⟩)
        go_roundw
        case rel => exact ⟨k + 1, _, by go_num, by omega, rfl⟩
        case measure => simp [intOf]; omega
    · go_wp2
      go_ret
      exact ⟨rfl, _, rfl⟩

/-- A list that is lent: its numbers and sixteen marks behind them, in a block of its own. -/
structure Lent (w : World) (base g n c : Nat) (xs : List Int) : Prop where
  own : OwnN w base 5 .u8 (.slice (some ⟨g, 0, none⟩) (n + 16) c) (xs ++ marks 16)
  len : xs.length = n
  ge : base ≤ g
theorem Lent.cap {w : World} {base g n c : Nat} {xs : List Int} (h : Lent w base g n c xs) : n + 16 ≤ c := by
  obtain ⟨_, h2 | ⟨g', cap, cur, e, _, _, hc, _⟩⟩ := h.own
  · cases h2.1
  · injection e with _ e1 e2; omega
theorem Lent.rd {w : World} {base g n c : Nat} {xs : List Int} (h : Lent w base g n c xs) : RdN w (fun k => k = g) .u8 (some ⟨g, 0, none⟩) n xs := by
  obtain ⟨A, c', e, _, hr⟩ := RdN.of_own h.own
  injection e with e1 e2 e3
  subst e1
  have hl : (xs ++ marks 16).length = n + 16 := by rw [List.length_append, marks_length, h.len]
  rw [hl] at hr
  have h2 := hr.sub (lo := 0) (up := n) (Nat.zero_le _) (by omega)
  have e4 : ((⟨g, 0, none⟩ : Addr).add 0) = ⟨g, 0, none⟩ := rfl
  rw [e4, List.drop_zero, Nat.sub_zero, List.take_append_of_le_length (by rw [h.len]; exact Nat.le_refl _), List.take_of_length_le (by rw [h.len]; exact Nat.le_refl _)] at h2
  exact h2.mono (fun k hk => by simpa [Value.ownBlock] using hk.symm)
theorem Lent.full {w : World} {base g n c : Nat} {xs : List Int} (h : Lent w base g n c xs) : RdN w (fun k => k = g) .u8 (some ⟨g, 0, none⟩) (n + 16) (xs ++ marks 16) := by
  obtain ⟨A, c', e, _, hr⟩ := RdN.of_own h.own
  injection e with e1 e2 e3
  subst e1
  rw [← e2] at hr
  exact hr.mono (fun k hk => by simpa [Value.ownBlock] using hk.symm)
theorem Lent.keep {w w' : World} {base g n c : Nat} {xs : List Int} {S : Nat → Prop} (h : Lent w base g n c xs) (hk : Keep S w w') (hs : ¬ S g) : Lent w' base g n c xs :=
  ⟨hk.own h.own (fun k hk' e => by simp [Value.ownBlock] at hk'; exact hs (hk' ▸ e)), h.len, h.ge⟩

theorem Lent.cell {w : World} {base g n c : Nat} {xs : List Int} (h : Lent w base g n c xs) {i : Nat} (hi : i < n) : w.cell? ⟨g, i, none⟩ = some (.int .u8 (xs.getD i 0)) ∧ w.frozen? ⟨g, i, none⟩ = false := by
  have hl : (xs ++ marks 16).length = n + 16 := by rw [List.length_append, marks_length, h.len]
  have ho := h.own
  unfold OwnN at ho
  rw [hl] at ho
  obtain ⟨ad, e, hc⟩ := h.rd.at_ hi
  injection e with e
  subst e
  have : ((⟨g, 0, none⟩ : Addr).add i) = ⟨g, i, none⟩ := by unfold Addr.add; split <;> simp_all
  rw [this] at hc
  exact ⟨hc, own_frozen ho i⟩
/-- A store into a list that is lent. -/
theorem Lent.set_ {w : World} {base g n c : Nat} {xs : List Int} (h : Lent w base g n c xs) {i : Nat} (hi : i < n) (y : Int) : Lent (w.setCell ⟨g, i, none⟩ (.int .u8 y)) base g n c (xs.set i y) := by
  have hl : (xs ++ marks 16).length = n + 16 := by rw [List.length_append, marks_length, h.len]
  have ho := h.own
  unfold OwnN at ho
  rw [hl] at ho
  have h2 := own_set ho (show i < n + 16 by omega) (.int .u8 y)
  refine ⟨?_, by simpa using h.len, h.ge⟩
  have e : nums .u8 (xs.set i y ++ marks 16) = (nums .u8 (xs ++ marks 16)).set i (.int .u8 y) := by
    have : i < xs.length := by rw [h.len]; exact hi
    unfold nums
    rw [← List.set_append_left _ _ this, List.map_set]
  unfold OwnN
  rw [e, show (xs.set i y ++ marks 16).length = n + 16 from by simp [marks_length, h.len]]
  exact h2
set_option maxHeartbeats 1000000 in
set_option maxRecDepth 100000 in
theorem lent_any (ok : Nat → Prop) (A : Option Addr) (n c : Nat) (xs : List Int) (w : World) (hr : RdN w ok .u8 A n xs) (hl : n ≤ 140737488355300) :
    Calls Tryd.prog 5 #[.slice A n c] w fun e w' => ∃ g c', e = .returned (.slice (some ⟨g, 0, none⟩) n c') ∧ Lent w' w.heap.size g n c' xs ∧ Below w.heap.size w w' := by
  have h1 := Held.mk hr.len
  have Hr := Held.mk hr
  clear hr
  go_enter Tryd.func5, Tryd.ntmps5
  go_wp2_with fail
  refine (full_any ok A n c xs w Hr.out hl).mono ?_
  rintro e w1 ⟨v, rfl, ho, hb⟩
  have hl1 : (xs ++ marks 16).length = n + 16 := by rw [List.length_append, marks_length, h1.out]
  obtain ⟨g, cap, rfl, hg, _⟩ := World.ownsW.form (h := ho) (by rw [hl1]; omega)
  have hcap : n + 16 ≤ cap := by
    obtain ⟨_, h2 | ⟨g', cap', cur, e, _, _, hc, _⟩⟩ := ho
    · cases h2.1
    · injection e with _ e1 e2; omega
  rw [hl1] at ho ⊢
  have Ho := Held.mk ho
  clear ho hl1
  go_wp2
  go_ret
  exact ⟨g, cap, rfl, ⟨Ho.out, h1.out, hg⟩, hb⟩

set_option maxHeartbeats 1000000 in
set_option maxRecDepth 100000 in
theorem kept_any (ok' : Nat → Prop) (A' : Option Addr) (base g n c c' : Nat) (xs : List Int) (w : World) (hL : Lent w base g n c xs) (hr' : RdN w ok' .u8 A' n xs) (hl : n ≤ 140737488355300) :
    Calls Tryd.prog 10 #[.slice (some ⟨g, 0, none⟩) n c, .slice A' n c'] w fun e w' => e = .returned (.bool true) ∧ ∃ m, w' = w.drewN m := by
  have hcap := hL.cap
  have HL := Held.mk hL
  have Hr' := Held.mk hr'
  clear hL hr'
  have h0 : ((n : Int) != n) = false := by simp
  go_enter Tryd.func10, Tryd.ntmps10
  go_wp2_with fail
  refine (keptFull_any _ ok' _ A' n c c' (n + 16) xs w rfl HL.out.full Hr'.out (by omega)).mono ?_
  rintro e w' ⟨rfl, m, rfl⟩
  go_wp2
  go_ret
  exact ⟨rfl, _, rfl⟩
end Kit
end Go.Proofs.YtihgmlcmdpmhhaaDoor
/- append of one row of numbers to another: in a plain region, and at a step of a region that draws. -/
namespace Go.Proofs.YtihgmlcmdpmhhaaDoor
set_option linter.unusedVariables false
set_option linter.unusedSimpArgs false
namespace Apn
open Go.RowKit Mem
section
variable {P : Program} {ops : Array Oper} {o : Oper} {a : Act} {w : World} {K : Act → World → Prop} {Q : Exit → Act → World → Prop} {E : Prop}
/-- append(v, x...), at a step of a region that draws its order. -/
theorem stepS (base : Nat) (hgd : o.guard = none) (s x : Operand) (t e : TypeId) (z : Value) (size bytes : Nat)
    (ho : o.op = .call { callee := .builtin .append, args := #[s, x], argTypes := #[t, t] })
    (ht : P.underlying t = some (.slice e)) (hinfo : (P.info? e).map (fun i => (i.zero, i.size, i.bytes)) = some (some z, size, bytes)) (hzs : z.cells.size = size) (hsz : 0 < size) (hb0 : 0 < bytes)
    (v : Value) (n : Nat) (xs : List Value) (hs : a.eval s = v) (hown : w.ownsW base e size v n xs)
    (ok : Nat → Prop) (A : Option Addr) (m c : Nat) (news : List Value) (hx : a.eval x = .slice A m c) (hr : RdV w ok size A m news) (h1 : ∀ u ∈ news, u.oneCell' = true)
    (hbytes : ((n + m) + (n + m) / 4 + 192) * bytes ≤ 281474976710656) (hbase : base ≤ w.heap.size)
    (h : ∀ v' w', w'.ownsW base e size v' (n + m) (xs ++ news) → w.grownBy w' v.ownBlock → (v'.ownBlock = v.ownBlock ∨ ∃ b, v'.ownBlock = some b ∧ w.heap.size ≤ b) → K (a.put o.dst v') w') :
    if Region.wanted o (yielded ops a.tmps) = true then Oper.wp P o a w K Q else E := by
  have hw : Region.wanted o (yielded ops a.tmps) = true := by simp [Region.wanted, hgd]
  rw [if_pos hw]
  obtain ⟨i0, hi, hzz⟩ := Option.map_eq_some_iff.1 hinfo
  simp only [Prod.mk.injEq] at hzz
  obtain ⟨hz0, hz1, hz2⟩ := hzz
  have hlen : (n + m) + (n + m) / 4 + 192 ≤ 281474976710656 := Nat.le_trans (Nat.le_mul_of_pos_right _ hb0) hbytes
  obtain ⟨v', w', hrun, h2, h3, h4⟩ := run_append_any (P := P) w base t o.type e i0 z size bytes ht hi hz0 hz1 hz2 hzs hsz v n xs hown ok A m c news hr h1 (by simp only [maxLen]; omega) hbytes hbase
  unfold Oper.wp execOp
  simp only [ho, resolve, invoke, builtin, Sem.run_bind, Sem.run_pure, Result.andThen_ok, List.map_toArray, List.map_cons, List.map_nil, hs, hx, hrun]
  exact h v' w' h2 h3 h4
end
section
variable {P : Program} {ops : Array Oper} {rest : List Oper} {o : Oper} {a : Act} {w : World} {Q : Exit → Act → World → Prop}
theorem own_of (k : IntKind) {w' : World} {base e m : Nat} {v' : Value} {xs ys : List Int} (hy : ys.length = m) (h : w'.ownsW base e 1 v' (xs.length + m) (nums k xs ++ nums k ys)) : OwnN w' base e k v' (xs ++ ys) := by
  unfold OwnN
  rw [nums_append, List.length_append, hy]
  exact h
/-- append(v, x...) of numbers, behind 'at_builtin'. -/
theorem appN (base : Nat) (hgd : o.guard = none) (s x : Operand) (t e : TypeId) (k : IntKind) (bytes : Nat)
    (ho : o.op = .call { callee := .builtin .append, args := #[s, x], argTypes := #[t, t] })
    (ht : P.underlying t = some (.slice e)) (hinfo : (P.info? e).map (fun i => (i.zero, i.size, i.bytes)) = some (some (.int k 0), 1, bytes)) (hb0 : 0 < bytes)
    (v : Value) (xs : List Int) (hs : a.eval s = v) (hown : OwnN w base e k v xs)
    (ok : Nat → Prop) (A : Option Addr) (m c : Nat) (ys : List Int) (hx : a.eval x = .slice A m c) (hr : RdN w ok k A m ys)
    (hbytes : ((xs.length + m) + (xs.length + m) / 4 + 192) * bytes ≤ 281474976710656) (hbase : base ≤ w.heap.size)
    (h : ∀ v' w', OwnN w' base e k v' (xs ++ ys) → w.grownBy w' v.ownBlock → (v'.ownBlock = v.ownBlock ∨ ∃ b, v'.ownBlock = some b ∧ w.heap.size ≤ b) → wpList P ops Q rest (a.put o.dst v') w') : wpList P ops Q (o :: rest) a w :=
  appS w base hgd s x t e (.int k 0) 1 bytes ho ht hinfo rfl (by omega) hb0 v xs.length (nums k xs) hs hown ok A m c (nums k ys) hx hr (nums_one _ _) hbytes hbase
    (fun v' w' h1 h2 h3 => h v' w' (own_of k hr.len h1) h2 h3)
end
section
variable {P : Program} {ops : Array Oper} {o : Oper} {a : Act} {w : World} {K : Act → World → Prop} {Q : Exit → Act → World → Prop} {E : Prop}
/-- append(v, x...) of numbers, at a step of a region that draws its order. -/
theorem stepN (base : Nat) (hgd : o.guard = none) (s x : Operand) (t e : TypeId) (k : IntKind) (bytes : Nat)
    (ho : o.op = .call { callee := .builtin .append, args := #[s, x], argTypes := #[t, t] })
    (ht : P.underlying t = some (.slice e)) (hinfo : (P.info? e).map (fun i => (i.zero, i.size, i.bytes)) = some (some (.int k 0), 1, bytes)) (hb0 : 0 < bytes)
    (v : Value) (xs : List Int) (hs : a.eval s = v) (hown : OwnN w base e k v xs)
    (ok : Nat → Prop) (A : Option Addr) (m c : Nat) (ys : List Int) (hx : a.eval x = .slice A m c) (hr : RdN w ok k A m ys)
    (hbytes : ((xs.length + m) + (xs.length + m) / 4 + 192) * bytes ≤ 281474976710656) (hbase : base ≤ w.heap.size)
    (h : ∀ v' w', OwnN w' base e k v' (xs ++ ys) → w.grownBy w' v.ownBlock → (v'.ownBlock = v.ownBlock ∨ ∃ b, v'.ownBlock = some b ∧ w.heap.size ≤ b) → K (a.put o.dst v') w') : if Region.wanted o (yielded ops a.tmps) = true then Oper.wp P o a w K Q else E :=
  stepS (P := P) (ops := ops) (Q := Q) base hgd s x t e (.int k 0) 1 bytes ho ht hinfo rfl (by omega) hb0 v xs.length (nums k xs) hs hown ok A m c (nums k ys) hx hr (nums_one _ _) hbytes hbase
    (fun v' w' h1 h2 h3 => h v' w' (own_of k hr.len h1) h2 h3)
end
end Apn
end Go.Proofs.YtihgmlcmdpmhhaaDoor
