/- A journal on a disk: what Open, Append and Sync make of it: plain. -/
import Derived.Test.YtihgmlcmdpmhhaaScc
import Derived.Test.YtihgmlcmdpmhhaaDdp
import Derived.Test.YtihgmlcmdpmhhaaDdq
import Derived.Test.YtihgmlcmdpmhhaaDdr
import Derived.Test.YtihgmlcmdpmhhaaSfr
import Derived.Test.YtihgmlcmdpmhhaaFrm
namespace Go.Proofs.Ytihgmlcmdpmhhaa
set_option linter.unusedVariables false
set_option linter.unusedSimpArgs false
namespace Jrn
open Go.RowKit Mem Apn Wire
theorem scanR_fits : ∀ (f k : Nat) (b : List Int), Byt b → (scanR f k b).2.1 ≤ b.length ∧ (scanR f k b).1.length ≤ (scanR f k b).2.1 ∧ Recs (scanR f k b).1
  | 0, _, _, _ => ⟨Nat.zero_le _, Nat.le_refl _, fun _ h => by simp [scanR] at h⟩
  | f + 1, k, b, hb => by
    unfold scanR
    split
    · exact ⟨Nat.zero_le _, Nat.le_refl _, fun _ h => by simp at h⟩
    · obtain ⟨x, ps, n, e, hu⟩ : ∃ x ps n e, unf b = (x, ps, n, e) := ⟨_, _, _, _, rfl⟩
      rw [hu]
      cases e with
      | ok =>
        obtain ⟨h1, h2, h3, h4⟩ := unf_fits b hb x ps n hu
        have h5 := scanR_fits f (k + 1) (b.drop n) (fun c hc => hb c (List.mem_of_mem_drop hc))
        rw [List.length_drop] at h5
        simp only
        split
        · refine ⟨by simp only; omega, by simp only [List.length_cons]; omega, ?_⟩
          intro r hr
          simp only [List.mem_cons] at hr
          rcases hr with rfl | hr
          · exact ⟨h3, h4⟩
          · exact h5.2.2 r hr
        · exact ⟨Nat.zero_le _, Nat.le_refl _, fun _ h => by simp at h⟩
      | no j => exact ⟨Nat.zero_le _, Nat.le_refl _, fun _ h => by simp at h⟩
      | ref s j => exact ⟨Nat.zero_le _, Nat.le_refl _, fun _ h => by simp at h⟩
theorem scan_fits (b : List Int) (hb : Byt b) : (scan b).2.1 ≤ b.length ∧ (scan b).1.length ≤ (scan b).2.1 ∧ Recs (scan b).1 := scanR_fits _ _ _ hb
/-- A journal: how often the disk's power had failed, how many records there are, how many are durable. -/
structure JS where
  fl : Nat
  last : Nat
  synced : Nat
def syncd (s : DS) : DS := ⟨s.B, s.B, s.B.length, s.dead, s.failed, s.inn, s.keep⟩
def wAppend : ByteArray := ⟨#[97, 112, 112, 101, 110, 100]⟩
def wRead : ByteArray := ⟨#[114, 101, 97, 100]⟩
def wCut : ByteArray := ⟨#[99, 117, 116]⟩
def wSync : ByteArray := ⟨#[115, 121, 110, 99]⟩
/-- Open's cut: the disk, and whether the power failed. -/
def openC (s : DS) : DS × Bool := if (scan s.B).2.1 < s.B.length then doesS (cutS s (scan s.B).2.1) else (s, false)
/-- Open: the disk; whether it went well. -/
def openS (s : DS) : DS × Bool :=
  if s.dead then (s, false) else if (openC s).2 then ((openC s).1, false)
  else if (doesS (openC s).1).2 then ((doesS (openC s).1).1, false) else (syncd (doesS (openC s).1).1, true)
def openE (s : DS) : Value :=
  if s.dead then deadV wRead else if (openC s).2 then deadV wCut
  else if (doesS (openC s).1).2 then deadV wSync else .nilIface
def openJ (s : DS) : JS := ⟨(openS s).1.failed, (scan s.B).1.length, (scan s.B).1.length⟩
def writeOk (s : DS) (b : List Int) : Bool := !s.dead && decide (s.B.length + b.length ≤ 67108864) && !(doesS (addS s b)).2
theorem writeOk_ok {s : DS} {b : List Int} (h : writeOk s b = true) : (writeS s b).2 = .nilIface := by
  unfold writeOk at h
  simp only [Bool.and_eq_true, Bool.not_eq_true', decide_eq_true_eq] at h
  unfold writeS
  rw [if_neg (by simp [h.1.1]), if_neg (by omega), h.2]
  rfl
theorem writeOk_no {s : DS} {b : List Int} (h : writeOk s b = false) : ∃ T v, (writeS s b).2 = .iface T v := by
  unfold writeS
  split
  · exact ⟨_, _, rfl⟩
  · split
    · exact ⟨_, _, rfl⟩
    · rename_i h1 h2
      unfold writeOk at h
      have h3 : (doesS (addS s b)).2 = true := by
        have h4 : s.dead = false := by simpa using h1
        have h5 : s.B.length + b.length ≤ 67108864 := by omega
        rw [h4, decide_eq_true h5] at h
        simpa using h
      rw [h3]
      exact ⟨_, _, rfl⟩
def syncOk (s : DS) : Bool := !s.dead && !(doesS s).2
theorem syncOk_ok {s : DS} (h : syncOk s = true) : (syncS s).2 = .nilIface ∧ (syncS s).1 = syncd (doesS s).1 := by
  unfold syncOk at h
  simp only [Bool.and_eq_true, Bool.not_eq_true'] at h
  unfold syncS
  rw [if_neg (by simp [h.1])]
  obtain ⟨a, b, hd⟩ : ∃ a b, doesS s = (a, b) := ⟨_, _, rfl⟩
  rw [hd] at h ⊢
  simp only at h
  rw [h.2]
  exact ⟨rfl, rfl⟩
theorem syncOk_no {s : DS} (h : syncOk s = false) : (syncS s).2 = deadV wSync := by
  unfold syncS
  split
  · rfl
  · rename_i h1
    unfold syncOk at h
    have h4 : s.dead = false := by simpa using h1
    obtain ⟨a, b, hd⟩ : ∃ a b, doesS s = (a, b) := ⟨_, _, rfl⟩
    rw [h4, hd] at h
    rw [hd]
    have : b = true := by simpa using h
    rw [this]
    rfl
/-- Append. -/
def appS (s : DS) (j : JS) (r : List Int) : DS × JS × Int × Value :=
  if ¬ s.failed = j.fl then (s, j, 0, deadV wAppend)
  else if 65536 < r.length then (s, j, 0, Er.enc (.ref wPayload 5))
  else if writeOk s (frameL (j.last + 1) r) then ((writeS s (frameL (j.last + 1) r)).1, ⟨j.fl, j.last + 1, j.synced⟩, j.last + 1, .nilIface)
  else ((writeS s (frameL (j.last + 1) r)).1, j, 0, (writeS s (frameL (j.last + 1) r)).2)
/-- Sync. -/
def jsyncS (s : DS) (j : JS) : DS × JS × Int × Value :=
  if ¬ s.failed = j.fl then (s, j, 0, .iface 60 (.int .i64 23))
  else if syncOk s then ((syncS s).1, ⟨j.fl, j.last, j.last⟩, j.last, .nilIface)
  else ((syncS s).1, j, 0, (syncS s).2)
end Jrn
end Go.Proofs.Ytihgmlcmdpmhhaa
