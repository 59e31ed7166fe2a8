/- The sum of bytes, four bits at a time and bit by bit: plain Lean. -/
namespace Go.Proofs.Ytihgmlcmdpmhhaa
set_option linter.unusedVariables false
namespace Wire
def poly : Nat := 2197175160
def half : List Nat := [0, 274646895, 549293790, 820201905, 1098587580, 1361435347, 1640403810, 1905808397, 2197175160, 2460548119, 2722870694, 2987750089, 3280807620, 3553878443, 3811616794, 4084100981]
def g1 (c : Nat) : Nat := c / 2 ^^^ (if c % 2 = 1 then poly else 0)
def g4 (s : Nat) : Nat := s / 16 ^^^ half.getD (s % 16) 0
/-- One byte by the table. -/
def sumB (s c : Nat) : Nat := g4 (g4 (s ^^^ c))
def sumT (l : List Nat) : Nat := l.foldl sumB 4294967295
/-- One bit of a byte, the byte's rest. -/
def bitB (c y k : Nat) : Nat := c / 2 ^^^ (if c % 2 = y / 2 ^ k % 2 then 0 else poly)
def bitsB (c y : Nat) : Nat → Nat
  | 0 => c
  | k + 1 => bitB (bitsB c y k) y k
theorem xor_div2 (a b : Nat) : (a ^^^ b) / 2 = a / 2 ^^^ b / 2 := by
  have := Nat.shiftRight_xor_distrib (a := a) (b := b) (i := 1)
  simpa [Nat.shiftRight_eq_div_pow] using this
theorem xor_mod2 (a b : Nat) : (a ^^^ b) % 2 = (a % 2 + b % 2) % 2 := by
  have h : (a ^^^ b) % 2 = (a % 2) ^^^ (b % 2) := Nat.xor_mod_two_pow (n := 1)
  rw [h]
  rcases Nat.mod_two_eq_zero_or_one a with ha | ha <;> rcases Nat.mod_two_eq_zero_or_one b with hb | hb <;> rw [ha, hb] <;> rfl
theorem g1_xor (a b : Nat) : g1 (a ^^^ b) = g1 a ^^^ g1 b := by
  unfold g1
  rw [xor_div2, xor_mod2]
  rcases Nat.mod_two_eq_zero_or_one a with ha | ha <;> rcases Nat.mod_two_eq_zero_or_one b with hb | hb <;> simp [ha, hb]
  · ac_rfl
  · ac_rfl
  · have : poly ^^^ poly = 0 := Nat.xor_self _
    calc a / 2 ^^^ b / 2 = a / 2 ^^^ b / 2 ^^^ 0 := (Nat.xor_zero _).symm
      _ = a / 2 ^^^ b / 2 ^^^ (poly ^^^ poly) := by rw [this]
      _ = a / 2 ^^^ poly ^^^ (b / 2 ^^^ poly) := by ac_rfl
def iter (f : Nat → Nat) : Nat → Nat → Nat
  | 0, x => x
  | n + 1, x => f (iter f n x)
theorem iter_add (f : Nat → Nat) (m n x : Nat) : iter f m (iter f n x) = iter f (m + n) x := by
  induction m with
  | zero => rw [Nat.zero_add]; rfl
  | succ m ih => rw [Nat.succ_add]; show f (iter f m (iter f n x)) = f (iter f (m + n) x); rw [ih]
theorem iter_xor (n a b : Nat) : iter g1 n (a ^^^ b) = iter g1 n a ^^^ iter g1 n b := by
  induction n with
  | zero => rfl
  | succ n ih => show g1 (iter g1 n (a ^^^ b)) = _; rw [ih, g1_xor]; rfl
theorem iter_high (n x : Nat) (h : x % 2 ^ n = 0) : iter g1 n x = x / 2 ^ n := by
  induction n with
  | zero => simp [iter]
  | succ n ih =>
    have hd : 2 ^ n ∣ 2 ^ (n + 1) := Nat.pow_dvd_pow 2 (by omega)
    have h1 : x % 2 ^ n = 0 := by
      have := Nat.mod_mod_of_dvd x hd
      rw [h] at this
      simpa using this.symm
    show g1 (iter g1 n x) = _
    rw [ih h1]
    have h2 : x / 2 ^ n % 2 = 0 := by
      rw [Nat.pow_succ, Nat.mod_mul, h1] at h
      have hp : 0 < 2 ^ n := Nat.pow_pos (by omega)
      rw [Nat.zero_add] at h
      rcases Nat.mul_eq_zero.1 h with h | h
      · omega
      · exact h
    unfold g1
    rw [if_neg (by omega), Nat.xor_zero, Nat.div_div_eq_div_mul, ← Nat.pow_succ]
theorem g4_small : ∀ i : Fin 16, iter g1 4 i.val = half.getD i.val 0 := by decide +kernel
theorem split16 (s : Nat) : s = s / 16 * 16 ^^^ s % 16 := by
  have h : s % 16 < 2 ^ 4 := by omega
  have := Nat.two_pow_add_eq_or_of_lt h (s / 16)
  have h2 : 2 ^ 4 * (s / 16) ^^^ s % 16 = 2 ^ 4 * (s / 16) ||| s % 16 := by
    apply Nat.eq_of_testBit_eq
    intro i
    rw [Nat.testBit_xor, Nat.testBit_or, Nat.testBit_two_pow_mul]
    by_cases hi : 4 ≤ i
    · have : (s % 16).testBit i = false := Nat.testBit_lt_two_pow (Nat.lt_of_lt_of_le h (Nat.pow_le_pow_right (by omega) hi))
      simp [this, hi]
    · simp [hi]
  rw [show s / 16 * 16 = 2 ^ 4 * (s / 16) from by omega, h2, ← this]
  omega
theorem g4_eq (s : Nat) : g4 s = iter g1 4 s := by
  conv => rhs; rw [split16 s]
  rw [iter_xor, iter_high 4 (s / 16 * 16) (by omega)]
  have := g4_small ⟨s % 16, by omega⟩
  simp only at this
  rw [this]
  unfold g4
  congr 1
  omega
theorem bits_iter (c y k : Nat) : iter g1 k (c ^^^ y) = bitsB c y k ^^^ y / 2 ^ k := by
  induction k with
  | zero => simp [iter, bitsB]
  | succ k ih =>
    show g1 (iter g1 k (c ^^^ y)) = bitB (bitsB c y k) y k ^^^ y / 2 ^ (k + 1)
    rw [ih]
    unfold g1 bitB
    rw [xor_div2, xor_mod2, Nat.div_div_eq_div_mul, ← Nat.pow_succ]
    generalize bitsB c y k = a
    generalize y / 2 ^ (k + 1) = z
    generalize y / 2 ^ k = b
    rcases Nat.mod_two_eq_zero_or_one a with ha | ha <;> rcases Nat.mod_two_eq_zero_or_one b with hb | hb <;> simp [ha, hb] <;> ac_rfl
theorem sumB_eq (s c : Nat) (hc : c < 256) : sumB s c = bitsB s c 8 := by
  unfold sumB
  rw [g4_eq, g4_eq, iter_add, bits_iter, show c / 2 ^ (4 + 4) = 0 from Nat.div_eq_of_lt hc, Nat.xor_zero]
theorem xor_lt (a b : Nat) (ha : a < 4294967296) (hb : b < 4294967296) : a ^^^ b < 4294967296 := Nat.xor_lt_two_pow (n := 32) ha hb
theorem half_lt (i : Nat) : half.getD i 0 < 4294967296 := by
  rcases Nat.lt_or_ge i 16 with h | h
  · have : ∀ i : Fin 16, half.getD i.val 0 < 4294967296 := by decide +kernel
    exact this ⟨i, h⟩
  · rw [List.getD_eq_getElem?_getD, List.getElem?_eq_none (by simpa [half] using h)]; simp
theorem g4_lt (s : Nat) (h : s < 4294967296) : g4 s < 4294967296 := xor_lt _ _ (by omega) (half_lt _)
theorem sumB_lt (s c : Nat) (h : s < 4294967296) (hc : c < 256) : sumB s c < 4294967296 := g4_lt _ (g4_lt _ (xor_lt _ _ h (by omega)))
theorem bitB_lt (c y k : Nat) (h : c < 4294967296) : bitB c y k < 4294967296 := by
  unfold bitB
  exact xor_lt _ _ (by omega) (by split <;> simp [poly])
theorem bitsB_lt (c y k : Nat) (h : c < 4294967296) : bitsB c y k < 4294967296 := by
  induction k with
  | zero => exact h
  | succ k ih => exact bitB_lt _ _ _ ih
theorem sumT_lt (l : List Nat) (hl : ∀ c ∈ l, c < 256) : sumT l < 4294967296 := by
  have : ∀ (l : List Nat) (s : Nat), (∀ c ∈ l, c < 256) → s < 4294967296 → l.foldl sumB s < 4294967296 := by
    intro l
    induction l with
    | nil => intro s _ h; exact h
    | cons c l ih => intro s hl h; exact ih _ (fun d hd => hl d (List.mem_cons_of_mem _ hd)) (sumB_lt _ _ h (hl c (List.mem_cons_self ..)))
  exact this l _ hl (by omega)
end Wire
end Go.Proofs.Ytihgmlcmdpmhhaa
