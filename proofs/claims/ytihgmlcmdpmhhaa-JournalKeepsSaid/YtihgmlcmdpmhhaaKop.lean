/- Open beside rows; a fresh copy of the rows; a first disk. -/
import Derived.Test.YtihgmlcmdpmhhaaKcr
namespace Go.Proofs.Ytihgmlcmdpmhhaa
set_option linter.unusedVariables false
set_option linter.unusedSimpArgs false
namespace Jrn
open Go.RowKit Mem Apn Wire Aps AptBytes
theorem dp_open (b P : Nat) (G : Nat → Prop) (s : DS) (v : Value) (all : List (List Int)) (w : World) (h : Dp b G w P s v all) (hs : s.Good) (hl : s.B.length ≤ 1000000000) (hf : s.failed ≤ 4611686018427387903) (hb : Byt s.B) (ho : (openS s).2 = true) (hbw : b ≤ w.heap.size) :
    Calls Try.prog 12 #[.pointer (some ⟨P, 0, none⟩)] w fun e w' => ∃ J vg, e = .returned (.tuple #[.pointer (some ⟨J, 0, none⟩), vg, .nilIface]) ∧ Rows w' w.heap.size vg (scan s.B).1 ∧ Kp b G w' J P (openS s).1 (openJ s) v all ∧ Kg G w w' := by
  obtain ⟨F, h1, h3, h4⟩ := h.ex
  refine (open_any F P s w h1 hs hl hf hb (fun k hk => (h3 k hk).2.1)).mono ?_
  rintro e w' (⟨_, J, vg, w2, F', he, hR, hB, hK, hD, hJ, hF, hJJ⟩ | ⟨h0, _⟩)
  · have s1 := hB.size
    have s2 := hK.size
    have hJl := hJ.lt
    have hKw : Keep F w w' := (Keep.of_below hB F).trans hK
    refine ⟨J, vg, he, hR.keep hK (fun k hk hk2 hf => by have := (h3 k hf).2.1; omega), ⟨⟨F', hD, hJ, fun k hk => ?_, ?_⟩, fun k hk => Nat.lt_of_lt_of_le (h.hG k hk) (by omega), h.hb⟩, hKw.mono (fun i _ hi => (h3 i hi).2.2)⟩
    · rcases hk with hk | hk
      · rcases hF k hk with h5 | h5
        · have := h3 k h5; exact ⟨this.1, by omega, this.2.2⟩
        · exact ⟨by omega, h5.2, fun hg => by have := h.hG k hg; omega⟩
      · subst hk; exact ⟨by omega, hJl, fun hg => by have := h.hG k hg; omega⟩
    · refine h4.keep hKw (fun k hk => .inl hk) (fun k hk => (h3 k hk).2.2) h.hG (fun k hk => ?_)
      rcases hk with hk | hk
      · rcases hF k hk with h5 | h5
        · exact .inl h5
        · exact .inr (by omega)
      · subst hk; exact .inr (by omega)
  · rw [h0] at ho; cases ho
/-- What is kept behind a fresh copy v of rows, made from w1 to w2, and a box behind it. -/
def Gn (b : Nat) (w1 w2 : World) (v : Value) (k : Nat) : Prop := k < b ∨ (w1.heap.size ≤ k ∧ k < w2.heap.size ∧ v.ownBlock ≠ some k) ∨ k = w2.heap.size
theorem kp_fresh {b J P : Nat} {G : Nat → Prop} {s : DS} {j : JS} {v v' : Value} {all got : List (List Int)} {w1 w2 : World} (h : Kp b G w1 J P s j v all) (hR : Rows w2 w1.heap.size v' got) (hB : Below w1.heap.size w1 w2) (hbw : b ≤ w1.heap.size) (o : Obj) :
    Kp b (Gn b w1 w2 v') (w2.alloc o) J P s j v' got := by
  obtain ⟨F, h1, h2, h3, h4⟩ := h.ex
  obtain ⟨V, a1, a2, a3⟩ := hR.ex
  have s1 := hB.size
  have hb2 : Below w1.heap.size w1 (w2.alloc o) := hB.alloc s1 o
  refine ⟨⟨F, h1.below hb2, h2.below hb2, fun k hk => ?_, ⟨V, ?_, ?_, ?_⟩⟩, ?_, fun k hk => .inl hk⟩
  · have := h3 k hk
    refine ⟨this.1, by simp; omega, ?_⟩
    rintro (h5 | h5 | h5)
    · omega
    · omega
    · omega
  · exact (own_rebase a1 (fun k hk => by have := own_ge a1 k hk; omega)).alloc o
  · intro k hk
    have := own_ge a1 k hk
    have := own_lt a1 k hk
    refine ⟨fun hf => by have := (h3 k hf).2.1; omega, ?_⟩
    rintro (h5 | h5 | h5)
    · omega
    · exact h5.2.2 hk
    · omega
  · intro i hi
    have h5 := a2 i hi
    obtain ⟨a, c, e, hc, hr⟩ := RdN.of_own h5
    have ei : got.getD i [] = got[i] := by rw [List.getD_eq_getElem?_getD, List.getElem?_eq_getElem hi]; rfl
    rw [ei]
    refine ⟨a, c, e, hc, ?_⟩
    have hk : Keep (fun _ => False) w2 (w2.alloc o) := (Keep.refl _ w2).alloc o
    exact RdV.mono (hr.keep hk (fun _ _ h => h)) (fun k hk => .inr (.inl ⟨own_ge h5 k hk, own_lt h5 k hk, own_type_ne h5 a1 (by decide) hk⟩))
  · intro k hk
    have e : (w2.alloc o).heap.size = w2.heap.size + 1 := by simp
    rw [e]
    rcases hk with h5 | h5 | h5
    · omega
    · omega
    · omega
theorem dp_first {b P : Nat} {s : DS} {w : World} (h : Dn b w P s) (hbw : b ≤ w.heap.size) : Dp b (fun k => k < b) w P s (.slice none 0 0) [] := by
  obtain ⟨F, h1, h2⟩ := h.ex
  exact ⟨⟨F, h1, fun k hk => ⟨(h2 k hk).1, (h2 k hk).2, by have := (h2 k hk).1; omega⟩, ⟨fun _ => .nilIface, own_nil w b _ _, fun k hk => by simp [Value.ownBlock] at hk, fun j hj => absurd hj (by simp)⟩⟩, fun k hk => by omega, fun k hk => hk⟩
theorem Kg.from_ {b : Nat} {G : Nat → Prop} {w w' : World} (h : Kg G w w') (hb : ∀ k, k < b → G k) : From b w w' := h.mono (fun i _ hi => by
  rcases Nat.lt_or_ge i b with h | h
  · exact absurd (hb i h) hi
  · exact h)
end Jrn
end Go.Proofs.Ytihgmlcmdpmhhaa
