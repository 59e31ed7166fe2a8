/- A disk, and a journal on it, behind a mark b of the heap: the operations. -/
import Derived.Test.YtihgmlcmdpmhhaaJap
import Derived.Test.YtihgmlcmdpmhhaaRdq
namespace Go.Proofs.Ytihgmlcmdpmhhaa
set_option linter.unusedVariables false
set_option linter.unusedSimpArgs false
namespace Jrn
open Go.RowKit Mem Apn Wire
structure Dn (b : Nat) (w : World) (P : Nat) (s : DS) : Prop where
  ex : ∃ F, Dk w F P s ∧ ∀ k, F k → b ≤ k ∧ k < w.heap.size
structure Jn (b : Nat) (w : World) (J P : Nat) (s : DS) (j : JS) : Prop where
  ex : ∃ F, Dk w F P s ∧ Jk w F J P j ∧ ∀ k, F k → b ≤ k ∧ k < w.heap.size
  ge : b ≤ J
theorem Jn.dn {b : Nat} {w : World} {J P : Nat} {s : DS} {j : JS} (h : Jn b w J P s j) : Dn b w P s := by
  obtain ⟨F, h1, h2, h3⟩ := h.ex
  exact ⟨F, h1, h3⟩
theorem Dn.below {b : Nat} {w w' : World} {P : Nat} {s : DS} (h : Dn b w P s) (hb : Below w.heap.size w w') : Dn b w' P s := by
  obtain ⟨F, h1, h2⟩ := h.ex
  exact ⟨F, h1.below hb, fun k hk => ⟨(h2 k hk).1, Nat.lt_of_lt_of_le (h2 k hk).2 hb.size⟩⟩
theorem Jn.below {b : Nat} {w w' : World} {J P : Nat} {s : DS} {j : JS} (h : Jn b w J P s j) (hb : Below w.heap.size w w') : Jn b w' J P s j := by
  obtain ⟨F, h1, h2, h3⟩ := h.ex
  exact ⟨⟨F, h1.below hb, h2.below hb, fun k hk => ⟨(h3 k hk).1, Nat.lt_of_lt_of_le (h3 k hk).2 hb.size⟩⟩, h.ge⟩
/-- Blocks from b on alone were written. -/
def From (b : Nat) (w w' : World) : Prop := Keep (fun k => b ≤ k) w w'
theorem From.trans {b : Nat} {w w1 w2 : World} (h : From b w w1) (k : From b w1 w2) : From b w w2 := Keep.trans h k
theorem From.of_below {b : Nat} {w w' : World} (h : Below w.heap.size w w') : From b w w' := Keep.of_below h _
theorem From.to_below {w w' : World} (h : From w.heap.size w w') : Below w.heap.size w w' := Keep.to_below h (fun i hi h => by omega)
theorem dn_new (ok : Nat → Prop) (A : Option Addr) (n c : Nat) (b : List Int) (w : World) (hr : RdN w ok .u8 A n b) (hn : n ≤ 1000000000) :
    Calls Try.prog 11 #[.slice A n c] w fun e w' => ∃ P, e = .returned (.pointer (some ⟨P, 0, none⟩)) ∧ Dn w.heap.size w' P (newS b) ∧ Below w.heap.size w w' :=
  (new_any ok A n c b w hr hn).mono fun e w' ⟨P, h1, h2, h3, h4⟩ => ⟨P, h1, ⟨_, h3, fun k hk => hk⟩, h4⟩
theorem dn_open (b P : Nat) (s : DS) (w : World) (h : Dn b w P s) (hs : s.Good) (hl : s.B.length ≤ 1000000000) (hf : s.failed ≤ 4611686018427387903) (hb : Byt s.B) (ho : (openS s).2 = true) (hbw : b ≤ w.heap.size) :
    Calls Try.prog 12 #[.pointer (some ⟨P, 0, none⟩)] w fun e w' => ∃ J v, e = .returned (.tuple #[.pointer (some ⟨J, 0, none⟩), v, .nilIface]) ∧ Rows w' w.heap.size v (scan s.B).1 ∧ Jn b w' J P (openS s).1 (openJ s) ∧ From b w w' := by
  obtain ⟨F, h1, h2⟩ := h.ex
  refine (open_any F P s w h1 hs hl hf hb (fun k hk => (h2 k hk).2)).mono ?_
  rintro e w' (⟨_, J, v, w2, F', he, hR, hB, hK, hD, hJ, hF, hJJ⟩ | ⟨h0, _⟩)
  · refine ⟨J, v, he, hR.keep hK (fun k hk hk2 hf => ?_), ⟨⟨F', hD, hJ, fun k hk => ?_⟩, ?_⟩, ?_⟩
    · have := (h2 k hf).2; omega
    · have hs1 := hK.size
      have hs2 := hB.size
      rcases hF k hk with h | h
      · exact ⟨(h2 k h).1, by have := (h2 k h).2; omega⟩
      · exact ⟨by omega, h.2⟩
    · have := hB.size; omega
    · exact (Keep.of_below hB _).trans (hK.mono (fun i _ h => (h2 i h).1))
  · rw [h0] at ho; cases ho
theorem jn_append (b J P : Nat) (s : DS) (j : JS) (ok : Nat → Prop) (A : Option Addr) (n c : Nat) (r : List Int) (w : World) (h : Jn b w J P s j) (hs : s.Good) (hr : RdN w ok .u8 A n r) (hb : Byt r) (hn : n ≤ 140737488355328) (hl : j.last ≤ 4611686018427387904) (hbw : b ≤ w.heap.size) :
    Calls Try.prog 18 #[.pointer (some ⟨J, 0, none⟩), .slice A n c] w fun e w' => e = .returned (.tuple #[.int .i64 (appS s j r).2.2.1, (appS s j r).2.2.2]) ∧ Jn b w' J P (appS s j r).1 (appS s j r).2.1 ∧ From b w w' := by
  obtain ⟨F, h1, h2, h3⟩ := h.ex
  refine (append_any F J P s j ok A n c r w h1 h2 hs hr hb (fun k hk => (h3 k hk).2) hn hl).mono ?_
  rintro e w' ⟨he, F', hD, hJ, hF, hK⟩
  have hs1 := hK.size
  refine ⟨he, ⟨⟨F', hD, hJ, fun k hk => ?_⟩, h.ge⟩, hK.mono (fun i _ hi => ?_)⟩
  · rcases hF k hk with h | h
    · exact ⟨(h3 k h).1, by have := (h3 k h).2; omega⟩
    · exact ⟨by omega, h.2⟩
  · rcases hi with hi | hi
    · exact (h3 i hi).1
    · subst hi; exact h.ge
theorem jn_sync (b J P : Nat) (s : DS) (j : JS) (w : World) (h : Jn b w J P s j) (hs : s.Good) (hbw : b ≤ w.heap.size) :
    Calls Try.prog 19 #[.pointer (some ⟨J, 0, none⟩)] w fun e w' => e = .returned (.tuple #[.int .i64 (jsyncS s j).2.2.1, (jsyncS s j).2.2.2]) ∧ Jn b w' J P (jsyncS s j).1 (jsyncS s j).2.1 ∧ From b w w' := by
  obtain ⟨F, h1, h2, h3⟩ := h.ex
  refine (jsync_any F J P s j w h1 h2 hs (fun k hk => (h3 k hk).2)).mono ?_
  rintro e w' ⟨he, F', hD, hJ, hF, hK⟩
  have hs1 := hK.size
  refine ⟨he, ⟨⟨F', hD, hJ, fun k hk => ?_⟩, h.ge⟩, hK.mono (fun i _ hi => ?_)⟩
  · rcases hF k hk with h | h
    · exact ⟨(h3 k h).1, by have := (h3 k h).2; omega⟩
    · exact ⟨by omega, h.2⟩
  · rcases hi with hi | hi
    · exact (h3 i hi).1
    · subst hi; exact h.ge
theorem jn_last (b J P : Nat) (s : DS) (j : JS) (w : World) (h : Jn b w J P s j) :
    Calls Try.prog 22 #[.pointer (some ⟨J, 0, none⟩)] w fun e w' => e = .returned (.tuple #[.int .i64 j.last, .int .i64 j.synced]) ∧ Jn b w' J P s j ∧ Below w.heap.size w w' := by
  obtain ⟨F, h1, h2, h3⟩ := h.ex
  refine (last_any F J P j w h2).mono ?_
  rintro e w' ⟨he, m, rfl⟩
  have hb : Below w.heap.size w (w.drewN m) := below_drewN (Below.refl _ _) m
  exact ⟨he, h.below hb, hb⟩
theorem jn_crash (b J P : Nat) (s : DS) (j : JS) (k : Int) (w : World) (h : Jn b w J P s j) (hs : s.Good) (hbw : b ≤ w.heap.size) :
    Calls Try.prog 21 #[.pointer (some ⟨P, 0, none⟩), .agg #[.int .i64 k]] w fun e w' => e = .returned (.tuple #[]) ∧ Jn b w' J P (crashS s k) j ∧ From b w w' := by
  obtain ⟨F, h1, h2, h3⟩ := h.ex
  refine (crash_any F P s k w h1 hs (fun k hk => (h3 k hk).2)).mono ?_
  rintro e w' ⟨he, hD, hK⟩
  have hs1 := hK.size
  refine ⟨he, ⟨⟨_, hD, h2.next hK, fun k hk => ?_⟩, h.ge⟩, hK.mono (fun i _ hi => (h3 i hi).1)⟩
  rcases hk with hk | hk
  · exact ⟨(h3 k hk).1, by have := (h3 k hk).2; omega⟩
  · exact ⟨by omega, hk.2⟩
theorem jn_revive (b J P : Nat) (s : DS) (j : JS) (w : World) (h : Jn b w J P s j) :
    Calls Try.prog 20 #[.pointer (some ⟨P, 0, none⟩)] w fun e w' => e = .returned (.tuple #[]) ∧ Jn b w' J P (reviveS s) j ∧ From b w w' := by
  obtain ⟨F, h1, h2, h3⟩ := h.ex
  refine (revive_any F P s w h1).mono ?_
  rintro e w' ⟨he, hD, hK⟩
  have hs1 := hK.size
  exact ⟨he, ⟨⟨F, hD, h2.keep hK (fun k e => by subst e; exact h1.pF), fun k hk => ⟨(h3 k hk).1, by have := (h3 k hk).2; omega⟩⟩, h.ge⟩, hK.mono (fun i _ hi => by subst hi; exact (h3 _ h1.pF).1)⟩
/-! Without a failure of the power. -/
theorem doesS_idle {s : DS} (h : s.inn = 0) : doesS s = (s, false) := by unfold doesS; rw [if_pos h]
/-- What Open makes of a disk that doesn't fail. -/
def openI (s : DS) : DS := if (scan s.B).2.1 < s.B.length then syncd (cutS s (scan s.B).2.1) else syncd s
theorem openS_idle {s : DS} (hd : s.dead = false) (hi : s.inn = 0) : openS s = (openI s, true) := by
  unfold openS openI openC
  rw [if_neg (by simp [hd])]
  split
  · have : doesS (cutS s (scan s.B).2.1) = (cutS s (scan s.B).2.1, false) := doesS_idle hi
    rw [this]
    simp [this]
  · simp [doesS_idle hi]
theorem appS_idle {s : DS} {j : JS} {r : List Int} (hd : s.dead = false) (hi : s.inn = 0) (hf : s.failed = j.fl) (hr : r.length ≤ 65536) (hl : s.B.length + (frameL (j.last + 1) r).length ≤ 67108864) :
    appS s j r = (addS s (frameL (j.last + 1) r), (⟨j.fl, j.last + 1, j.synced⟩ : JS), ((j.last : Int) + 1), Value.nilIface) := by
  have h1 : doesS (addS s (frameL (j.last + 1) r)) = (addS s (frameL (j.last + 1) r), false) := doesS_idle hi
  have h2 : writeOk s (frameL (j.last + 1) r) = true := by unfold writeOk; rw [h1, hd, decide_eq_true hl]; rfl
  unfold appS
  rw [if_neg (by simpa using hf), if_neg (by omega), h2, if_pos rfl]
  unfold writeS
  rw [if_neg (by simp [hd]), if_neg (by omega), h1]
theorem jsyncS_idle {s : DS} {j : JS} (hd : s.dead = false) (hi : s.inn = 0) (hf : s.failed = j.fl) :
    jsyncS s j = (syncd s, (⟨j.fl, j.last, j.last⟩ : JS), (j.last : Int), Value.nilIface) := by
  have h1 := doesS_idle hi
  have h2 : syncOk s = true := by unfold syncOk; rw [h1, hd]; rfl
  unfold jsyncS
  rw [if_neg (by simpa using hf), h2, if_pos rfl, (syncOk_ok h2).2, h1]
end Jrn
end Go.Proofs.Ytihgmlcmdpmhhaa
