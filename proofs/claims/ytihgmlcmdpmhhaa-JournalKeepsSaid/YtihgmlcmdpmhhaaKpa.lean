/- JournalKeeps, the plain part: what is on a disk behind appends, syncs and failures. -/
import Derived.Test.YtihgmlcmdpmhhaaJsa
namespace Go.Proofs.Ytihgmlcmdpmhhaa
set_option linter.unusedVariables false
set_option linter.unusedSimpArgs false
namespace Jrn
open Go.RowKit Mem Apn Wire
/-- How many bytes the first so many records have. -/
def fln (all : List (List Int)) (l : Nat) : Nat := (frs 0 (all.take l)).length
structure Bd (s : DS) : Prop where
  inn : s.inn ≤ 9223372036854775807
  keep : -9223372036854775808 ≤ s.keep ∧ s.keep ≤ 9223372036854775807
  lb : s.B.length ≤ 67108864
  ld : s.D.length ≤ 67108864
  ll : s.least ≤ s.B.length
theorem Bd.good {s : DS} (h : Bd s) (hf : s.failed ≤ 1000000000000000000) : s.Good := ⟨h.ll, by have := h.lb; omega, by have := h.ld; omega, by omega, h.inn, h.keep⟩
/-- Bytes that begin the records' frames, with the first so many. -/
def Beg (B : List Int) (all : List (List Int)) (l : Nat) : Prop := ∃ c, B = (frs 0 all).take c ∧ fln all l ≤ c
structure Mid (s : DS) (all : List (List Int)) (l : Nat) : Prop where
  B : Beg s.B all l
  D : s.dead = false → Beg s.D all l ∧ fln all l ≤ s.least
  le : l ≤ all.length
  bd : Bd s
  few : all.length ≤ 16777217
  recs : Recs all
structure Out (s : DS) (all : List (List Int)) (l : Nat) : Prop where
  dead : s.dead = false
  inn : s.inn = 0
  B : Beg s.B all l
  le : l ≤ all.length
  bd : Bd s
  few : all.length ≤ 16777217
  recs : Recs all
structure Str (s : DS) (j : JS) (all : List (List Int)) (l : Nat) : Prop where
  dead : s.dead = false
  B : s.B = frs 0 all
  D : s.D = frs 0 (all.take l)
  least : s.least = s.D.length
  fl : s.failed = j.fl
  last : j.last = all.length
  le : l ≤ all.length
  bd : Bd s
  recs : Recs all
theorem frs_four (L : List (List Int)) : ∀ k, 4 * L.length ≤ (frs k L).length := by
  induction L with
  | nil => intro k; simp [frs]
  | cons r rs ih => intro k; have := ih (k + 1); have := frameL_pos (k + 1) r; simp only [frs, List.length_cons, List.length_append]; omega
theorem Str.few {s : DS} {j : JS} {all : List (List Int)} {l : Nat} (h : Str s j all l) : all.length ≤ 16777216 := by
  have := frs_four all 0; have := h.bd.lb; rw [h.B] at this; omega
theorem fln_le (all : List (List Int)) (l : Nat) : fln all l ≤ (frs 0 all).length := frs_le all 0 l
theorem fln_snoc {all : List (List Int)} {l : Nat} (h : l ≤ all.length) (r : List Int) : fln (all ++ [r]) l = fln all l := by
  unfold fln; rw [List.take_append_of_le_length h]
theorem beg_self (all : List (List Int)) (l : Nat) : Beg (frs 0 all) all l := ⟨(frs 0 all).length, (List.take_of_length_le (Nat.le_refl _)).symm, fln_le all l⟩
theorem beg_first (all : List (List Int)) (l : Nat) : Beg (frs 0 (all.take l)) all l := ⟨fln all l, frs_take all 0 l, Nat.le_refl _⟩
theorem Beg.snoc {B : List Int} {all : List (List Int)} {l : Nat} (h : Beg B all l) (hl : l ≤ all.length) (hb : B.length = B.length) (r : List Int) : Beg B (all ++ [r]) l := by
  obtain ⟨c, h1, h2⟩ := h
  refine ⟨min c (frs 0 all).length, ?_, ?_⟩
  · rw [frs_snoc, h1]
    rw [List.take_append_of_le_length (by omega)]
    rcases Nat.le_total c (frs 0 all).length with h | h
    · rw [Nat.min_eq_left h]
    · rw [Nat.min_eq_right h, List.take_of_length_le h, List.take_of_length_le (Nat.le_refl _)]
  · rw [fln_snoc hl]
    have := fln_le all l
    omega
theorem Str.mid {s : DS} {j : JS} {all : List (List Int)} {l : Nat} (h : Str s j all l) : Mid s all l where
  B := by rw [h.B]; exact beg_self all l
  D := fun _ => ⟨by rw [h.D]; exact beg_first all l, by rw [h.least, h.D]; exact Nat.le_refl _⟩
  le := h.le
  bd := h.bd
  few := by have := h.few; omega
  recs := h.recs
theorem Str.arm {s : DS} {j : JS} {all : List (List Int)} {l : Nat} (h : Str s j all l) (n k : Int) (hn : n ≤ 9223372036854775807) (hk : -9223372036854775808 ≤ k ∧ k ≤ 9223372036854775807) : Str (armS s n k) j all l ∧ (armS s n k).failed = s.failed := by
  have e : armS s n k = ⟨s.B, s.D, s.least, s.dead, s.failed, (max n 1).toNat, k⟩ := by unfold armS; rw [if_neg (by simp [h.dead])]
  rw [e]
  exact ⟨⟨h.dead, h.B, h.D, h.least, h.fl, h.last, h.le, ⟨by simp only; omega, hk, h.bd.lb, h.bd.ld, h.bd.ll⟩, h.recs⟩, rfl⟩
theorem left_len (s : DS) (k : Int) (h : Bd s) : (leftS s k).length ≤ 67108864 := by
  unfold leftS
  split
  · rw [List.length_take]; have := h.lb; omega
  · exact h.ld
/-- What is left where the power fails begins the frames. -/
theorem left_beg {B D : List Int} {least : Nat} {all : List (List Int)} {l f i : Nat} {kk : Int} (k : Int) (hB : Beg B all l) (hD : Beg D all l) (hl : fln all l ≤ least) (hll : least ≤ B.length) (d : Bool) : Beg (leftS ⟨B, D, least, d, f, i, kk⟩ k) all l := by
  unfold leftS
  split
  · obtain ⟨c, h1, h2⟩ := hB
    simp only
    rw [h1, List.take_take]
    refine ⟨_, rfl, ?_⟩
    have : B.length ≤ c := by rw [h1, List.length_take]; omega
    rw [← h1]
    omega
  · exact hD
theorem bd_fail {s : DS} (h : Bd s) (k : Int) : Bd (failS s k) := ⟨by simp [failS], h.keep, left_len s k h, left_len s k h, Nat.le_refl _⟩
/-- An operation, on a disk that holds this: it goes well, or the power fails. -/
theorem does_mid {s : DS} {all : List (List Int)} {l : Nat} (hd : s.dead = false) (h : Mid s all l) :
    ((doesS s).2 = false ∧ (doesS s).1.B = s.B ∧ (doesS s).1.D = s.D ∧ (doesS s).1.least = s.least ∧ (doesS s).1.dead = false ∧ (doesS s).1.failed = s.failed ∧ Bd (doesS s).1) ∨
    ((doesS s).2 = true ∧ Mid (doesS s).1 all l ∧ (doesS s).1.failed = s.failed + 1) := by
  unfold doesS
  split
  · exact .inl ⟨rfl, rfl, rfl, rfl, hd, rfl, h.bd⟩
  · split
    · exact .inl ⟨rfl, rfl, rfl, rfl, hd, rfl, ⟨by have := h.bd.inn; simp only; omega, h.bd.keep, h.bd.lb, h.bd.ld, h.bd.ll⟩⟩
    · have hb : Bd (⟨s.B, s.D, s.least, s.dead, s.failed, 0, s.keep⟩ : DS) := ⟨by simp, h.bd.keep, h.bd.lb, h.bd.ld, h.bd.ll⟩
      refine .inr ⟨rfl, ⟨?_, fun h' => by simp [failS] at h', h.le, bd_fail hb _, h.few, h.recs⟩, rfl⟩
      exact left_beg _ h.B (h.D hd).1 (h.D hd).2 h.bd.ll _
theorem Str.sync {s : DS} {j : JS} {all : List (List Int)} {l : Nat} (h : Str s j all l) :
    ((jsyncS s j).2.2 = ((all.length : Int), Value.nilIface) ∧ Str (jsyncS s j).1 (jsyncS s j).2.1 all all.length ∧ (jsyncS s j).1.failed = s.failed) ∨
    (∃ T v, (jsyncS s j).2.2 = (0, .iface T v) ∧ Mid (jsyncS s j).1 all l ∧ (jsyncS s j).1.failed ≤ s.failed + 1) := by
  unfold jsyncS
  rw [if_neg (by simpa using h.fl)]
  rcases does_mid h.dead h.mid with ⟨h1, h2, h3, h4, h5, h6, h7⟩ | ⟨h1, h2, h3⟩
  · have hok : syncOk s = true := by unfold syncOk; rw [h.dead, h1]; rfl
    rw [hok, if_pos rfl, (syncOk_ok hok).2]
    refine .inl ⟨by simp only [h.last], ⟨h5, ?_, ?_, rfl, ?_, h.last, Nat.le_refl _, ⟨h7.inn, h7.keep, h7.lb, h7.lb, Nat.le_refl _⟩, h.recs⟩, h6⟩
    · show (doesS s).1.B = _; rw [h2, h.B]
    · show (doesS s).1.B = _; rw [h2, h.B, List.take_of_length_le (Nat.le_refl _)]
    · show (doesS s).1.failed = _; rw [h6, h.fl]
  · have hno : syncOk s = false := by unfold syncOk; rw [h1]; simp
    rw [hno, if_neg (by simp), syncOk_no hno]
    have e1 : (syncS s).1 = (doesS s).1 := by
      unfold syncS
      rw [if_neg (by simp [h.dead])]
      obtain ⟨a, b, hd⟩ : ∃ a b, doesS s = (a, b) := ⟨_, _, rfl⟩
      rw [hd] at h1 ⊢
      simp only at h1
      rw [h1]
    rw [e1]
    exact .inr ⟨_, _, rfl, h2, by omega⟩
theorem Str.app {s : DS} {j : JS} {all : List (List Int)} {l : Nat} (h : Str s j all l) (r : List Int) (hr : r.length ≤ 65536) (hb : Byt r) :
    ((appS s j r).2.2 = ((all.length : Int) + 1, Value.nilIface) ∧ Str (appS s j r).1 (appS s j r).2.1 (all ++ [r]) l ∧ (appS s j r).1.failed = s.failed) ∨
    (∃ T v, (appS s j r).2.2 = (0, .iface T v) ∧ Mid (appS s j r).1 (all ++ [r]) l ∧ (appS s j r).1.failed ≤ s.failed + 1) := by
  have hfew := h.few
  have hrec := h.recs.snoc hr hb
  unfold appS
  rw [if_neg (by simpa using h.fl), if_neg (by omega)]
  obtain ⟨f, hf⟩ : ∃ f, frameL (j.last + 1) r = f := ⟨_, rfl⟩
  have hfr : frs 0 (all ++ [r]) = frs 0 all ++ f := by rw [frs_snoc, ← h.last, hf]
  rw [hf]
  by_cases hbig : 67108864 < s.B.length + f.length
  · have hno : writeOk s f = false := by unfold writeOk; rw [decide_eq_false (by omega)]; simp
    have e1 : writeS s f = (s, .iface 71 (.agg #[.string ⟨#[119, 114, 105, 116, 101]⟩, .int .i64 5])) := by
      unfold writeS; rw [if_neg (by simp [h.dead]), if_pos hbig]
    rw [hno, if_neg (by simp), e1]
    refine .inr ⟨_, _, rfl, ⟨?_, fun _ => ⟨?_, ?_⟩, by simp; have := h.le; omega, h.bd, by simp; omega, hrec⟩, by simp only; omega⟩
    · exact (by rw [h.B]; exact beg_self all l : Beg s.B all l).snoc h.le rfl r
    · exact (by rw [h.D]; exact beg_first all l : Beg s.D all l).snoc h.le rfl r
    · simp only; rw [fln_snoc h.le, h.least, h.D]; exact Nat.le_refl _
  · have hm : Mid (addS s f) (all ++ [r]) l := ⟨by show Beg (s.B ++ f) _ _; rw [h.B, ← hfr]; exact beg_self _ _, fun _ => ⟨(by rw [h.D]; exact beg_first all l : Beg s.D all l).snoc h.le rfl r, by show _ ≤ s.least; rw [fln_snoc h.le, h.least, h.D]; exact Nat.le_refl _⟩, by simp; have := h.le; omega,
      ⟨h.bd.inn, h.bd.keep, by show (s.B ++ f).length ≤ _; rw [List.length_append]; omega, h.bd.ld, by show s.least ≤ (s.B ++ f).length; have := h.bd.ll; rw [List.length_append]; omega⟩, by simp; omega, hrec⟩
    have e1 : writeS s f = ((doesS (addS s f)).1, errW ⟨#[119, 114, 105, 116, 101]⟩ (doesS (addS s f)).2) := by
      unfold writeS; rw [if_neg (by simp [h.dead]), if_neg hbig]
    rcases does_mid (s := addS s f) h.dead hm with ⟨h1, h2, h3, h4, h5, h6, h7⟩ | ⟨h1, h2, h3⟩
    · have hok : writeOk s f = true := by unfold writeOk; rw [h.dead, decide_eq_true (by omega), h1]; rfl
      rw [hok, if_pos rfl, e1]
      refine .inl ⟨by simp only [h.last], ⟨h5, ?_, ?_, ?_, ?_, ?_, by simp; have := h.le; omega, h7, hrec⟩, h6⟩
      · simp only; rw [h2, hfr]; show s.B ++ f = _; rw [h.B]
      · simp only; rw [h3, List.take_append_of_le_length h.le]; exact h.D
      · simp only; rw [h4, h3]; exact h.least
      · simp only; rw [h6]; exact h.fl
      · simp only; rw [h.last]; simp
    · have hno : writeOk s f = false := by unfold writeOk; rw [h1]; simp
      rw [hno, if_neg (by simp), e1, h1]
      exact .inr ⟨_, _, rfl, h2, by show (doesS (addS s f)).1.failed ≤ _; rw [h3]; exact Nat.le_refl _⟩
theorem Mid.crash {s : DS} {all : List (List Int)} {l : Nat} (h : Mid s all l) (k : Int) : Out (reviveS (crashS s k)) all l ∧ (reviveS (crashS s k)).failed ≤ s.failed + 1 ∧ (crashS s k).Good = (crashS s k).Good := by
  unfold crashS
  by_cases hd : s.dead = true
  · rw [if_pos hd]
    exact ⟨⟨rfl, rfl, h.B, h.le, ⟨by simp [reviveS], h.bd.keep, h.bd.lb, h.bd.ld, h.bd.ll⟩, h.few, h.recs⟩, by simp [reviveS], rfl⟩
  · have hd' : s.dead = false := by simpa using hd
    rw [if_neg hd]
    have hb := bd_fail h.bd k
    exact ⟨⟨rfl, rfl, left_beg (f := s.failed) (i := s.inn) (kk := s.keep) k h.B (h.D hd').1 (h.D hd').2 h.bd.ll s.dead, h.le, ⟨by simp [reviveS], hb.keep, hb.lb, hb.ld, hb.ll⟩, h.few, h.recs⟩, by simp [reviveS, failS], rfl⟩
theorem Str.revive {s : DS} {j : JS} {all : List (List Int)} {l : Nat} (h : Str s j all l) : Out (reviveS s) all l ∧ (reviveS s).failed = s.failed :=
  ⟨⟨rfl, rfl, h.mid.B, h.le, ⟨by simp [reviveS], h.bd.keep, h.bd.lb, h.bd.ld, h.bd.ll⟩, h.mid.few, h.recs⟩, rfl⟩
theorem Out.open_ {s : DS} {all : List (List Int)} {l : Nat} (h : Out s all l) :
    ∃ j, l ≤ j ∧ j ≤ all.length ∧ (scan s.B).1 = all.take j ∧ openS s = (openI s, true) ∧ Str (openI s) (openJ s) (all.take j) (all.take j).length ∧ (openI s).failed = s.failed ∧ (openI s).inn = 0 := by
  obtain ⟨c, h1, h2⟩ := h.B
  obtain ⟨j, e, k1, k2, k3, k4, k5⟩ := scan_take all c h.recs (by have := h.few; omega)
  rw [← h1] at k3 k4
  have hj : l ≤ j := k5 l h.le h2
  have hop := openS_idle h.dead h.inn
  have hfl : (frs 0 (all.take j)).length ≤ s.B.length := by
    have := frs_le all 0 j
    rw [h1, List.length_take]; omega
  have hB : s.B.take (frs 0 (all.take j)).length = frs 0 (all.take j) := by
    rw [h1, List.take_take, Nat.min_eq_left k2, ← frs_take]
  have hall : (all.take j).take (all.take j).length = all.take j := List.take_of_length_le (Nat.le_refl _)
  have hlb := h.bd.lb
  refine ⟨j, hj, k1, by rw [k3], hop, ?_, ?_, ?_⟩
  · have hJ : openJ s = ⟨s.failed, (all.take j).length, (all.take j).length⟩ := by
      unfold openJ
      rw [hop, k3]
      simp only
      unfold openI
      rw [k3]
      simp only
      split <;> rfl
    rw [hJ]
    unfold openI
    rw [k3]
    simp only
    split
    · rename_i hlt
      refine ⟨h.dead, hB, by rw [hall]; exact hB, rfl, rfl, rfl, Nat.le_refl _, ⟨by show s.inn ≤ _; rw [h.inn]; omega, h.bd.keep, ?_, ?_, Nat.le_refl _⟩, h.recs.take j⟩
      · show (s.B.take _).length ≤ _; rw [List.length_take]; omega
      · show (s.B.take _).length ≤ _; rw [List.length_take]; omega
    · rename_i hge
      have hBe : s.B = frs 0 (all.take j) := by rw [← hB, List.take_of_length_le (by omega)]
      exact ⟨h.dead, hBe, by rw [hall]; exact hBe, rfl, rfl, rfl, Nat.le_refl _, ⟨by show s.inn ≤ _; rw [h.inn]; omega, h.bd.keep, hlb, hlb, Nat.le_refl _⟩, h.recs.take j⟩
  · unfold openI; split <;> rfl
  · unfold openI; split <;> exact h.inn
end Jrn
end Go.Proofs.Ytihgmlcmdpmhhaa
