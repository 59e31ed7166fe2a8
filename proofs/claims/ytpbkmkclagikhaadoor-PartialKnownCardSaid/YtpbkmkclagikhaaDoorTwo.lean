/- Two orders, each in two hands: what they hold, apart. -/
import Derived.Test.YtpbkmkclagikhaaDoorAsq
import Derived.Test.YtpbkmkclagikhaaDoorRpt
namespace Go.Proofs.YtpbkmkclagikhaaDoor
set_option linter.unusedVariables false
set_option linter.unusedSimpArgs false
namespace Prt
open Go.RowKit Mem Dvs Err
def Dis (v u : Value) : Prop := ∀ k, v.ownBlock = some k → u.ownBlock ≠ some k
/-- One order in both hands. -/
structure Duo (w : World) (base B B2 q a l m d : Nat) (v vr : Value) (xs : List (Nat × Nat)) : Prop where
  o : Ord w base B q a l m d (shr q a d) v xs
  r : ROrd w base B2 q a l m d (shr q a d) vr xs
  le : d ≤ q
  dis : Dis v vr
def Tch (B B2 : Nat) (v vr : Value) (k : Nat) : Prop := k = B ∨ k = B2 ∨ v.ownBlock = some k ∨ vr.ownBlock = some k
theorem Duo.keep {w w' : World} {base B B2 q a l m d : Nat} {v vr : Value} {xs : List (Nat × Nat)} {S : Nat → Prop} (h : Duo w base B B2 q a l m d v vr xs) (hk : Keep S w w') (hs : ∀ k, Tch B B2 v vr k → ¬ S k) : Duo w' base B B2 q a l m d v vr xs :=
  ⟨h.o.keep hk (hs _ (.inl rfl)) (fun k h => hs k (.inr (.inr (.inl h)))), h.r.keep hk (hs _ (.inr (.inl rfl))) (fun k h => hs k (.inr (.inr (.inr h)))), h.le, h.dis⟩
theorem Duo.step {w w1 w2 : World} {base B B2 q a l m d t : Nat} {v vr v1 vr1 : Value} {xs xs1 : List (Nat × Nat)} (h : Duo w base B B2 q a l m d v vr xs)
    (ho : Ord w1 base B q a l m (d + t) (shr q a (d + t)) v1 xs1) (hk1 : Keep (fun k => k = B ∨ v.ownBlock = some k) w w1) (hv1 : v1.ownBlock = v.ownBlock ∨ ∃ b, v1.ownBlock = some b ∧ w.heap.size ≤ b)
    (hr : ROrd w2 base B2 q a l m (d + t) (shr q a (d + t)) vr1 xs1) (hk2 : Keep (fun k => k = B2 ∨ vr.ownBlock = some k) w1 w2) (hv2 : vr1.ownBlock = vr.ownBlock ∨ ∃ b, vr1.ownBlock = some b ∧ w1.heap.size ≤ b) (hd : d + t ≤ q) :
    Duo w2 base B B2 q a l m (d + t) v1 vr1 xs1 ∧ Keep (Tch B B2 v vr) w w2 ∧ (∀ k, Tch B B2 v1 vr1 k → Tch B B2 v vr k ∨ w.heap.size ≤ k) := by
  have hr1 : ROrd w1 base B2 q a l m d (shr q a d) vr xs := h.r.keep hk1 (fun e => by
    rcases e with e | e
    · exact Blk.ne_ h.r.blk h.o.blk (by decide) e
    · exact own_blk_ne h.o.own h.r.blk (by decide) e) (fun k hk e => by
    rcases e with e | e
    · exact own_blk_ne h.r.own h.o.blk (by decide) (by rw [hk, e])
    · exact h.dis k e hk)
  have hvr : Dis v1 vr := fun k hk e => by
    rcases hv1 with h1 | ⟨b, h1, hb⟩
    · exact h.dis k (by rw [← h1]; exact hk) e
    · have := own_lt h.r.own k e
      rw [h1] at hk
      injection hk with hk
      omega
  refine ⟨⟨ho.keep hk2 (fun e => ?_) (fun k hk e => ?_), hr, hd, fun k hk e => ?_⟩, (hk1.mono (fun k _ e => ?_)).then hk2 (fun k _ e => ?_), fun k hk => ?_⟩
  · rcases e with e | e
    · exact Blk.ne_ ho.blk hr1.blk (by decide) e
    · exact own_blk_ne hr1.own ho.blk (by decide) e
  · rcases e with e | e
    · exact own_blk_ne ho.own hr1.blk (by decide) (by rw [hk, e])
    · exact hvr k hk e
  · rcases hv2 with h2 | ⟨b, h2, hb⟩
    · exact hvr k hk (by rw [← h2]; exact e)
    · have := own_lt ho.own k hk
      rw [h2] at e
      injection e with e
      omega
  · rcases e with e | e
    · exact .inl e
    · exact .inr (.inr (.inl e))
  · rcases e with e | e
    · exact .inr (.inl e)
    · exact .inr (.inr (.inr e))
  · rcases hk with e | e | e | e
    · exact .inl (.inl e)
    · exact .inl (.inr (.inl e))
    · rcases hv1 with h1 | ⟨b, h1, hb⟩
      · exact .inl (.inr (.inr (.inl (by rw [← h1]; exact e))))
      · rw [h1] at e
        injection e with e
        exact .inr (by omega)
    · rcases hv2 with h2 | ⟨b, h2, hb⟩
      · exact .inl (.inr (.inr (.inr (by rw [← h2]; exact e))))
      · rw [h2] at e
        injection e with e
        have := hk1.size
        exact .inr (by omega)
theorem Duo.touch {w : World} {base B B2 q a l m d : Nat} {v vr : Value} {xs : List (Nat × Nat)} (h : Duo w base B B2 q a l m d v vr xs) : ∀ k, Tch B B2 v vr k → base ≤ k ∧ k < w.heap.size := fun k hk => by
  rcases hk with e | e | e | e
  · subst e; exact ⟨h.o.ge, h.o.blk.lt⟩
  · subst e; exact ⟨h.r.ge, h.r.blk.lt⟩
  · exact ⟨own_ge h.o.own k e, own_lt h.o.own k e⟩
  · exact ⟨own_ge h.r.own k e, own_lt h.r.own k e⟩
structure Four (q a l m : Nat) : Prop where
  q0 : 0 < q
  qm : q ≤ 9223372036854775807
  am : a ≤ 9223372036854775807
  l0 : 0 < l
  lm : l ≤ 9223372036854775807
  mm : m ≤ 9223372036854775807
/-- An order in both hands, or none in either; at most n parts. -/
def St (w : World) (base : Nat) (ob rb : Value) (n : Nat) (T : Nat → Prop) : Prop :=
  (ob = .pointer none ∧ rb = .pointer none) ∨ ∃ (B B2 q a l m d : Nat) (v vr : Value) (xs : List (Nat × Nat)), ob = .pointer (some ⟨B, 0, none⟩) ∧ rb = .pointer (some ⟨B2, 0, none⟩) ∧ Four q a l m ∧ xs.length ≤ n ∧ Duo w base B B2 q a l m d v vr xs ∧ ∀ k, Tch B B2 v vr k → T k
theorem St.keep {w w' : World} {base n : Nat} {ob rb : Value} {T S : Nat → Prop} (h : St w base ob rb n T) (hk : Keep S w w') (hs : ∀ k, T k → ¬ S k) : St w' base ob rb n T := by
  rcases h with h | ⟨B, B2, q, a, l, m, d, v, vr, xs, h1, h2, h3, h4, h5, h6⟩
  · exact .inl h
  · exact .inr ⟨B, B2, q, a, l, m, d, v, vr, xs, h1, h2, h3, h4, h5.keep hk (fun k hk => hs k (h6 k hk)), h6⟩
theorem St.mono {w : World} {base n n' : Nat} {ob rb : Value} {T : Nat → Prop} (h : St w base ob rb n T) (hn : n ≤ n') : St w base ob rb n' T := by
  rcases h with h | ⟨B, B2, q, a, l, m, d, v, vr, xs, h1, h2, h3, h4, h5, h6⟩
  · exact .inl h
  · exact .inr ⟨B, B2, q, a, l, m, d, v, vr, xs, h1, h2, h3, by omega, h5, h6⟩
def Inv (base Bo Br : Nat) (w : World) (o p r s : Value) (n : Nat) : Prop :=
  ∃ T0 T1, St w base o r n T0 ∧ St w base p s n T1 ∧ (∀ k, T0 k → ¬ T1 k) ∧ (∀ k, T0 k ∨ T1 k → base ≤ k ∧ k < w.heap.size ∧ k ≠ Bo ∧ k ≠ Br)
theorem Inv.keep {base Bo Br n : Nat} {w w' : World} {o p r s : Value} (h : Inv base Bo Br w o p r s n) (hk : Keep (fun _ => False) w w') : Inv base Bo Br w' o p r s n := by
  obtain ⟨T0, T1, h0, h1, hd, hg⟩ := h
  exact ⟨T0, T1, h0.keep hk (fun _ _ h => h), h1.keep hk (fun _ _ h => h), hd, fun k hk2 => by have := hg k hk2; have := hk.size; omega⟩
theorem Inv.mono {base Bo Br n n' : Nat} {w : World} {o p r s : Value} (h : Inv base Bo Br w o p r s n) (hn : n ≤ n') : Inv base Bo Br w o p r s n' := by
  obtain ⟨T0, T1, h0, h1, hd, hg⟩ := h
  exact ⟨T0, T1, h0.mono hn, h1.mono hn, hd, hg⟩
theorem Inv.pick {base Bo Br n x : Nat} {w : World} {o p r s : Value} (h : Inv base Bo Br w o p r s n) (hx : x < 2) :
    ∃ (ox rx : Value) (T : Nat → Prop), #[o, p][x]? = some ox ∧ #[r, s][x]? = some rx ∧ St w base ox rx n T ∧ (∀ k, T k → base ≤ k ∧ k < w.heap.size ∧ k ≠ Bo ∧ k ≠ Br) ∧
      (∀ w' T', St w' base ox rx (n + 1) T' → (∀ k, T' k → base ≤ k ∧ k < w'.heap.size) → Keep T w w' → (∀ k, T' k → T k ∨ w.heap.size ≤ k) → Bo < w.heap.size → Br < w.heap.size → Inv base Bo Br w' o p r s (n + 1)) := by
  obtain ⟨T0, T1, h0, h1, hd, hg⟩ := h
  have hx2 : x = 0 ∨ x = 1 := by omega
  rcases hx2 with rfl | rfl
  · refine ⟨o, r, T0, rfl, rfl, h0, fun k hk => hg k (.inl hk), fun w' T' hs' hg' hk hn hBo hBr => ⟨T', T1, hs', (h1.keep hk (fun k h1 h0 => hd k h0 h1)).mono (by omega), fun k h2 h3 => ?_, fun k h2 => ?_⟩⟩
    · rcases hn k h2 with h4 | h4
      · exact hd k h4 h3
      · have := hg k (.inr h3); omega
    · rcases h2 with h2 | h2
      · have h5 := hg' k h2
        rcases hn k h2 with h4 | h4
        · have := hg k (.inl h4); exact ⟨h5.1, h5.2, this.2.2⟩
        · exact ⟨h5.1, h5.2, by omega, by omega⟩
      · have := hg k (.inr h2); have := hk.size; omega
  · refine ⟨p, s, T1, rfl, rfl, h1, fun k hk => hg k (.inr hk), fun w' T' hs' hg' hk hn hBo hBr => ⟨T0, T', (h0.keep hk (fun k h0 h1 => hd k h0 h1)).mono (by omega), hs', fun k h2 h3 => ?_, fun k h2 => ?_⟩⟩
    · rcases hn k h3 with h4 | h4
      · exact hd k h2 h4
      · have := hg k (.inl h2); omega
    · rcases h2 with h2 | h2
      · have := hg k (.inl h2); have := hk.size; omega
      · have h5 := hg' k h2
        rcases hn k h2 with h4 | h4
        · have := hg k (.inr h4); exact ⟨h5.1, h5.2, this.2.2⟩
        · exact ⟨h5.1, h5.2, by omega, by omega⟩
/-- A new order, at its own block; or none. -/
def NewB (t : TypeId) (w w' : World) (ob : Value) (q a l m : Nat) : Prop := ∃ B, ob = .pointer (some ⟨B, 0, none⟩) ∧ w.heap.size ≤ B ∧ Blk w' B t #[.int .i64 q, .int .i64 a, .int .i64 l, .int .i64 m, .int .i64 0, .int .i64 0, .slice none 0 0]
def Bad (x0 x1 x2 x3 : Int) : Prop := x0 < 1 ∨ x1 < 0 ∨ x2 < 1 ∨ x3 < 0
def NewR (t : TypeId) (bad good : Value) (x0 x1 x2 x3 : Int) (w w' : World) (ob ev : Value) : Prop :=
  (Bad x0 x1 x2 x3 ∧ ob = .pointer none ∧ ev = bad) ∨ (¬ Bad x0 x1 x2 x3 ∧ ev = good ∧ ∃ q a l m : Nat, Four q a l m ∧ x0 = q ∧ x1 = a ∧ x2 = l ∧ x3 = m ∧ NewB t w w' ob q a l m)
theorem new_any (x0 x1 x2 x3 : Int) (b0 : x0 ≤ 9223372036854775807) (b1 : x1 ≤ 9223372036854775807) (b2 : x2 ≤ 9223372036854775807) (b3 : x3 ≤ 9223372036854775807) (w : World) :
    Calls Tryd.prog 19 #[.int .i64 x0, .int .i64 x1, .int .i64 x2, .int .i64 x3] w fun e w' => ∃ ob ev, e = .returned (.tuple #[ob, ev]) ∧ Keep (fun _ => False) w w' ∧ NewR 80 refusedV .nilIface x0 x1 x2 x3 w w' ob ev := by
  by_cases hm : Bad x0 x1 x2 x3
  · exact (New_no x0 x1 x2 x3 w hm).mono fun e w' ⟨h1, h2⟩ => ⟨_, _, h1, h2 ▸ Keep.refl _ _, .inl ⟨hm, rfl, rfl⟩⟩
  · have hm' := hm
    unfold Bad at hm
    obtain ⟨q, rfl⟩ := nat_of (show 0 ≤ x0 by omega)
    obtain ⟨a, rfl⟩ := nat_of (show 0 ≤ x1 by omega)
    obtain ⟨l, rfl⟩ := nat_of (show 0 ≤ x2 by omega)
    obtain ⟨m, rfl⟩ := nat_of (show 0 ≤ x3 by omega)
    exact (New_in q a l m w (by omega) (by omega)).mono fun e w' ⟨h1, h2⟩ => ⟨_, _, h1, h2 ▸ (Keep.refl _ _).alloc _, .inr ⟨hm', rfl, q, a, l, m, ⟨by omega, by omega, by omega, by omega, by omega, by omega⟩, rfl, rfl, rfl, rfl, _, rfl, Nat.le_refl _, h2 ▸ Blk.new _ _ _⟩⟩
theorem rnew_any (x0 x1 x2 x3 : Int) (b0 : x0 ≤ 9223372036854775807) (b1 : x1 ≤ 9223372036854775807) (b2 : x2 ≤ 9223372036854775807) (b3 : x3 ≤ 9223372036854775807) (w : World) :
    Calls Tryd.prog 20 #[.int .i64 x0, .int .i64 x1, .int .i64 x2, .int .i64 x3] w fun e w' => ∃ ob ev, e = .returned (.tuple #[ob, ev]) ∧ Keep (fun _ => False) w w' ∧ NewR 82 (.int .i64 1) (.int .i64 0) x0 x1 x2 x3 w w' ob ev := by
  by_cases hm : Bad x0 x1 x2 x3
  · exact (rNew_no x0 x1 x2 x3 w hm).mono fun e w' ⟨h1, h2⟩ => ⟨_, _, h1, h2 ▸ Keep.refl _ _, .inl ⟨hm, rfl, rfl⟩⟩
  · have hm' := hm
    unfold Bad at hm
    obtain ⟨q, rfl⟩ := nat_of (show 0 ≤ x0 by omega)
    obtain ⟨a, rfl⟩ := nat_of (show 0 ≤ x1 by omega)
    obtain ⟨l, rfl⟩ := nat_of (show 0 ≤ x2 by omega)
    obtain ⟨m, rfl⟩ := nat_of (show 0 ≤ x3 by omega)
    exact (rNew_in q a l m w (by omega) (by omega)).mono fun e w' ⟨h1, h2⟩ => ⟨_, _, h1, h2 ▸ (Keep.refl _ _).alloc _, .inr ⟨hm', rfl, q, a, l, m, ⟨by omega, by omega, by omega, by omega, by omega, by omega⟩, rfl, rfl, rfl, rfl, _, rfl, Nat.le_refl _, h2 ▸ Blk.new _ _ _⟩⟩
/-- Two new orders, one in each hand. -/
theorem St.fresh {w0 w1 w2 w3 w4 : World} {base : Nat} {x0 x1 x2 x3 : Int} {o e r n : Value} (h1 : NewR 80 refusedV .nilIface x0 x1 x2 x3 w0 w1 o e) (k1 : Keep (fun _ => False) w1 w4)
    (h2 : NewR 82 (.int .i64 1) (.int .i64 0) x0 x1 x2 x3 w2 w3 r n) (k2 : Keep (fun _ => False) w3 w4) (hb : base ≤ w0.heap.size) (hb2 : base ≤ w2.heap.size) :
    St w4 base o r 0 (fun k => (w0.heap.size ≤ k ∧ k < w1.heap.size) ∨ (w2.heap.size ≤ k ∧ k < w3.heap.size)) := by
  rcases h1 with ⟨m1, e1, e2⟩ | ⟨m1, e1, q, a, l, m, hf, q1, q2, q3, q4, B, e2, hB, hB2⟩
  · rcases h2 with ⟨m2, e3, e4⟩ | ⟨m2, _⟩
    · exact .inl ⟨e1, e3⟩
    · exact absurd m1 m2
  · rcases h2 with ⟨m2, _⟩ | ⟨m2, e3, q', a', l', m', hf', q1', q2', q3', q4', B', e2', hB', hB2'⟩
    · exact absurd m2 m1
    · obtain rfl : q = q' := by omega
      obtain rfl : a = a' := by omega
      obtain rfl : l = l' := by omega
      obtain rfl : m = m' := by omega
      refine .inr ⟨B, B', q, a, l, m, 0, .slice none 0 0, .slice none 0 0, [], e2, e2', hf, Nat.le_refl _, ⟨⟨?_, by omega, own_nil _ _ _ _⟩, ⟨?_, by omega, own_nil _ _ _ _⟩, Nat.zero_le _, fun k h => by simp [Value.ownBlock] at h⟩, fun k hk => ?_⟩
      · rw [shr_zero]; exact hB2.keep k1 (fun h => h)
      · rw [shr_zero]; exact hB2'.keep k2 (fun h => h)
      · rcases hk with e | e | e | e
        · subst e; exact .inl ⟨hB, hB2.lt⟩
        · subst e; exact .inr ⟨hB', hB2'.lt⟩
        · simp [Value.ownBlock] at e
        · simp [Value.ownBlock] at e
end Prt
end Go.Proofs.YtpbkmkclagikhaaDoor
