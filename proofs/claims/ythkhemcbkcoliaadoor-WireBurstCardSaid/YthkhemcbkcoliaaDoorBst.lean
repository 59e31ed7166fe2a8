/- Four neighbouring bytes that are changed change the sum: plain Lean. -/
import Derived.Test.YthkhemcbkcoliaaDoorFrl
namespace Go.Proofs.YthkhemcbkcoliaaDoor
set_option linter.unusedVariables false
set_option linter.unusedSimpArgs false
namespace Wire
theorem xor_zero_eq {a b : Nat} (h : a ^^^ b = 0) : a = b := by
  have e : a = (a ^^^ b) ^^^ b := by rw [Nat.xor_assoc, Nat.xor_self, Nat.xor_zero]
  rw [h, Nat.zero_xor] at e
  exact e
theorem g1_lt (x : Nat) (h : x < 4294967296) : g1 x < 4294967296 := by
  unfold g1
  refine xor_lt _ _ (by omega) ?_
  split <;> simp [poly]
theorem g1_zero (x : Nat) (hx : x < 4294967296) (h : g1 x = 0) : x = 0 := by
  unfold g1 at h
  have h1 := xor_zero_eq h
  split at h1
  · simp only [poly] at h1; omega
  · omega
theorem iter_lt (n x : Nat) (h : x < 4294967296) : iter g1 n x < 4294967296 := by
  induction n with
  | zero => exact h
  | succ n ih => exact g1_lt _ ih
theorem iter_zero (n x : Nat) (hx : x < 4294967296) (h : iter g1 n x = 0) : x = 0 := by
  induction n with
  | zero => exact h
  | succ n ih => exact ih (g1_zero _ (iter_lt n x hx) h)
theorem sumB_iter (s c : Nat) : sumB s c = iter g1 8 (s ^^^ c) := by
  unfold sumB
  rw [g4_eq, g4_eq, iter_add]
/-- Changes of neighbouring bytes as one number. -/
def val : List Nat → Nat
  | [] => 0
  | e :: l => e ^^^ val l * 256
theorem val_lt (l : List Nat) (h : ∀ e ∈ l, e < 256) : val l < 256 ^ l.length := by
  induction l with
  | nil => simp [val]
  | cons e l ih =>
    have h1 := ih (fun x hx => h x (List.mem_cons_of_mem _ hx))
    have h2 := h e (List.mem_cons_self ..)
    have e1 : 256 ^ (e :: l).length = 2 ^ (8 * (l.length + 1)) := by rw [List.length_cons, Nat.pow_mul]
    rw [val, e1]
    refine Nat.xor_lt_two_pow ?_ ?_
    · refine Nat.lt_of_lt_of_le h2 ?_
      exact Nat.pow_le_pow_right (n := 2) (by omega) (show 8 ≤ 8 * (l.length + 1) by omega)
    · rw [← e1, List.length_cons, Nat.pow_succ]
      exact Nat.mul_lt_mul_of_pos_right h1 (by omega)
theorem val_zero (l : List Nat) (h : ∀ e ∈ l, e < 256) (h0 : val l = 0) : ∀ e ∈ l, e = 0 := by
  induction l with
  | nil => simp
  | cons e l ih =>
    have h2 := h e (List.mem_cons_self ..)
    have h1 := xor_zero_eq h0
    intro x hx
    rcases List.mem_cons.1 hx with rfl | hx
    · omega
    · exact ih (fun x hx => h x (List.mem_cons_of_mem _ hx)) (by omega) x hx
def dif (d : Nat) (l : List Nat) : Nat := l.foldl (fun d e => iter g1 8 (d ^^^ e)) d
theorem dif_val (l : List Nat) : ∀ d, dif d l = iter g1 (8 * l.length) (d ^^^ val l) := by
  induction l with
  | nil => intro d; simp [dif, val, iter]
  | cons e l ih =>
    intro d
    show dif (iter g1 8 (d ^^^ e)) l = _
    rw [ih, List.length_cons, show 8 * (l.length + 1) = 8 * l.length + 8 by omega, ← iter_add, val, ← Nat.xor_assoc, iter_xor 8 (d ^^^ e), iter_high 8 (val l * 256) (by omega)]
    congr 2
    omega
theorem fold_dif (l m : List Nat) (hl : l.length = m.length) : ∀ s t, l.foldl sumB s ^^^ m.foldl sumB t = dif (s ^^^ t) (List.zipWith (· ^^^ ·) l m) := by
  induction l generalizing m with
  | nil =>
    obtain rfl : m = [] := List.eq_nil_of_length_eq_zero (by simpa using hl.symm)
    intro s t
    rfl
  | cons a l ih =>
    cases m with
    | nil => simp at hl
    | cons b m =>
      intro s t
      show List.foldl sumB (sumB s a) l ^^^ List.foldl sumB (sumB t b) m = dif (iter g1 8 ((s ^^^ t) ^^^ (a ^^^ b))) (List.zipWith (· ^^^ ·) l m)
      rw [ih m (by simpa using hl), sumB_iter, sumB_iter, ← iter_xor]
      congr 2
      rw [Nat.xor_assoc, Nat.xor_assoc, ← Nat.xor_assoc a t b, Nat.xor_comm a t, Nat.xor_assoc t a b]
theorem fold_inj (r : List Nat) (hr : ∀ e ∈ r, e < 256) : ∀ s t, s < 4294967296 → t < 4294967296 → r.foldl sumB s = r.foldl sumB t → s = t := by
  induction r with
  | nil => intro s t _ _ h; exact h
  | cons c r ih =>
    intro s t hs ht h
    have hc := hr c (List.mem_cons_self ..)
    have h1 := ih (fun x hx => hr x (List.mem_cons_of_mem _ hx)) _ _ (sumB_lt s c hs hc) (sumB_lt t c ht hc) h
    rw [sumB_iter, sumB_iter] at h1
    have h2 : iter g1 8 ((s ^^^ c) ^^^ (t ^^^ c)) = 0 := by rw [iter_xor, h1, Nat.xor_self]
    have h3 : (s ^^^ c) ^^^ (t ^^^ c) = s ^^^ t := by
      rw [Nat.xor_assoc, Nat.xor_comm t c, ← Nat.xor_assoc c c t, Nat.xor_self, Nat.zero_xor]
    rw [h3] at h2
    exact xor_zero_eq (iter_zero 8 _ (xor_lt _ _ hs ht) h2)
theorem fold_lt (l : List Nat) (hl : ∀ e ∈ l, e < 256) : ∀ s, s < 4294967296 → l.foldl sumB s < 4294967296 := by
  induction l with
  | nil => intro s h; exact h
  | cons c r ih => intro s h; exact ih (fun x hx => hl x (List.mem_cons_of_mem _ hx)) _ (sumB_lt s c h (hl c (List.mem_cons_self ..)))
theorem fold_burst (a b : List Nat) (ha : ∀ e ∈ a, e < 256) (hb : ∀ e ∈ b, e < 256) (hl : a.length = b.length) (h4 : a.length ≤ 4) (hne : a ≠ b) (s : Nat) : a.foldl sumB s ≠ b.foldl sumB s := by
  intro h
  have h1 := fold_dif a b hl s s
  rw [h, Nat.xor_self, Nat.xor_self, dif_val, Nat.zero_xor] at h1
  have hz : ∀ e ∈ List.zipWith (· ^^^ ·) a b, e < 256 := by
    intro e he
    obtain ⟨i, hi, rfl⟩ := List.getElem_of_mem he
    rw [List.getElem_zipWith]
    exact Nat.xor_lt_two_pow (n := 8) (ha _ (List.getElem_mem _)) (hb _ (List.getElem_mem _))
  have hv := val_lt _ hz
  have hle : (List.zipWith (· ^^^ ·) a b).length ≤ 4 := by simp; omega
  have h2 : 256 ^ (List.zipWith (· ^^^ ·) a b).length ≤ 256 ^ 4 := Nat.pow_le_pow_right (by omega) hle
  have e4 : (256 : Nat) ^ 4 = 4294967296 := by decide
  have h3 := val_zero _ hz (iter_zero _ _ (by omega) h1.symm)
  apply hne
  apply List.ext_getElem hl
  intro i h5 h6
  have := h3 (a[i] ^^^ b[i]) (List.mem_iff_getElem.2 ⟨i, by simp; omega, by rw [List.getElem_zipWith]⟩)
  exact xor_zero_eq this
theorem crc_burst (p a b r : List Int) (hp : Byt p) (ha : Byt a) (hb : Byt b) (hr : Byt r) (hl : a.length = b.length) (h4 : a.length ≤ 4) (hne : a ≠ b) : crc (p ++ a ++ r) ≠ crc (p ++ b ++ r) := by
  have B : ∀ l : List Int, Byt l → ∀ e ∈ nats l, e < 256 := fun l hl e he => by
    obtain ⟨x, hx, rfl⟩ := List.mem_map.1 he
    have := hl x hx
    omega
  intro h
  unfold crc sumT at h
  have h1 : ∀ a b : Nat, a ^^^ 4294967295 = b ^^^ 4294967295 → a = b := fun a b hab => by
    have := congrArg (· ^^^ 4294967295) hab
    simpa [Nat.xor_assoc] using this
  have h2 := h1 _ _ h
  simp only [nats, List.map_append, List.foldl_append] at h2
  have h3 := fold_inj _ (B r hr) _ _ (fold_lt _ (B a ha) _ (fold_lt _ (B p hp) _ (by decide))) (fold_lt _ (B b hb) _ (fold_lt _ (B p hp) _ (by decide))) h2
  refine fold_burst _ _ (B a ha) (B b hb) (by simpa [nats] using hl) (by simpa [nats] using h4) ?_ _ h3
  intro he
  apply hne
  apply List.ext_getElem hl
  intro i h5 h6
  have h7 : (nats a)[i]'(by simpa [nats] using h5) = (nats b)[i]'(by simpa [nats] using h6) := by simp only [he]
  simp only [nats, List.getElem_map] at h7
  have g1 := ha a[i] (List.getElem_mem _)
  have g2 := hb b[i] (List.getElem_mem _)
  omega
end Wire
end Go.Proofs.YthkhemcbkcoliaaDoor
