/- WireBack: what a row of calls writes, the same row reads; then the bytes are at their end: for every row of calls; no condition. -/
import Derived.Test.YthkhemcbkcoliaaLay
import Derived.Test.YthkhemcbkcoliaaKept
import Derived.Test.YthkhemcbkcoliaaRow
import Derived.Test.YthkhemcbkcoliaaRows
import Derived.Test.YthkhemcbkcoliaaWLast
import Derived.Deep.QuietTactic
import Derived.BigQuiet
namespace Go.Proofs.Ythkhemcbkcoliaa
set_option linter.unusedVariables false
set_option linter.unusedSimpArgs false
namespace Wire
open Go.RowKit Mem Kit Go.Proofs.YthkhemcbkcoliaaW.PrintLast

/-- The texts of a row of calls together. -/
def tot (ps : List Put) : Nat := (ps.map fun p => p.s.size).sum
theorem tot_snoc (ps : List Put) (p : Put) : tot (ps ++ [p]) = tot ps + p.s.size := by simp [tot]
theorem tot_take (ps : List Put) (k : Nat) : tot (ps.take k) ≤ tot ps := by
  have : tot (ps.take k ++ ps.drop k) = tot (ps.take k) + tot (ps.drop k) := by simp only [tot, List.map_append, List.sum_append]
  rw [List.take_append_drop] at this
  omega
theorem put_len (p : Put) : p.cells.length = 4 := rfl
/-- A row of calls that is read. -/
def RdP (w : World) (ok : Nat → Prop) (A : Option Addr) (ps : List Put) : Prop := RdV w ok 4 A ps.length (ps.flatMap Put.cells)
theorem RdP.at_ {w : World} {ok : Nat → Prop} {A : Option Addr} {ps : List Put} (h : RdP w ok A ps) {k : Nat} (hk : k < ps.length) : ∃ ad, A = some ad ∧ ok ad.block ∧
    w.cell? (ad.add (k * 4)) = some (.int .i64 ps[k].on) ∧ w.cell? ⟨(ad.add (k * 4)).block, (ad.add (k * 4)).off + 1, none⟩ = some (.int .i64 ps[k].kind) ∧
    w.cell? ⟨(ad.add (k * 4)).block, (ad.add (k * 4)).off + 2, none⟩ = some (.int .u64 ps[k].x) ∧ w.cell? ⟨(ad.add (k * 4)).block, (ad.add (k * 4)).off + 3, none⟩ = some (.string ps[k].s) := by
  obtain ⟨ad, e, hb, hc⟩ := h.2 (by omega)
  refine ⟨ad, e, hb, ?_, ?_, ?_, ?_⟩
  · exact hc _ _ (by rw [← Nat.add_zero (k * 4), Law.flat_get Put.cells 4 put_len ps k 0 hk (by omega)]; rfl)
  · have := hc (k * 4 + 1) _ (by rw [Law.flat_get Put.cells 4 put_len ps k 1 hk (by omega)]; rfl)
    rw [← add_of_add] at this
    exact this
  · have := hc (k * 4 + 2) _ (by rw [Law.flat_get Put.cells 4 put_len ps k 2 hk (by omega)]; rfl)
    rw [← add_of_add] at this
    exact this
  · have := hc (k * 4 + 3) _ (by rw [Law.flat_get Put.cells 4 put_len ps k 3 hk (by omega)]; rfl)
    rw [← add_of_add] at this
    exact this

def VastPost (ps : List Put) (w : World) (e : Ending) (w' : World) : Prop := ∃ b, e = .returned (.bool b) ∧ w = w' ∧ (b = false → tot ps ≤ 16777216)
set_option maxHeartbeats 1000000 in
set_option maxRecDepth 100000 in
theorem vast_any (ok : Nat → Prop) (A : Option Addr) (n c : Nat) (ps : List Put) (w : World) (hn : ps.length = n) (hr : RdP w ok A ps) (hg : ∀ p ∈ ps, p.Good) (hl : n ≤ 140737488351232) :
    Calls Try.prog 14 #[.slice A n c] w (VastPost ps w) := by
  have Hn := Held.mk hn
  have Hr := Held.mk hr
  have Hg := Held.mk hg
  clear hn hr hg
  go_enter Try.func14, Try.ntmps14
  go_wp2
  go_loop [3, 4] (fun t i => ∃ k : Nat, i = .int .i64 k ∧ k ≤ n ∧ t = .int .i64 (tot (ps.take k) : Nat) ∧ tot (ps.take k) ≤ 140737488351232 + 16777216) (fun _ i => n - (intOf i).toNat)
  case atStart => exact ⟨0, rfl, Nat.zero_le _, rfl, by simp [tot]⟩
  case round =>
    obtain ⟨k, rfl, hk, rfl, ht⟩ := hrel
    by_cases hlt : k < n
    · obtain ⟨ad, rfl, _, _, _, _, hc⟩ := Hr.out.at_ (show k < ps.length by rw [Hn.out]; exact hlt)
      have hp := (Hg.out _ (List.getElem_mem (show k < ps.length by rw [Hn.out]; exact hlt))).s
      have hs : Held (tot (ps.take (k + 1)) = tot (ps.take k) + (ps[k]'(by rw [Hn.out]; exact hlt)).s.size) := ⟨by
        rw [List.take_succ_eq_append_getElem (by rw [Hn.out]; exact hlt), tot_snoc]⟩
      generalize (ps[k]'(by rw [Hn.out]; exact hlt)).s = s at *
      by_cases hb : tot (ps.take k) ≤ 16777216
      · generalize tot (ps.take k) = t at *
        have hb' : (t : Int) ≤ 16777216 := by omega
        go_wp2
        go_round
        case rel => exact ⟨k + 1, by go_num, by omega, by rw [hs.out]; go_num, by rw [hs.out]; omega⟩
        case measure => simp [intOf]; omega
      · have hb2 := tot_take ps k
        generalize tot (ps.take k) = t at *
        have hb' : (16777216 : Int) < t := by omega
        clear hc
        go_wp2
        go_ret
        exact ⟨true, rfl, rfl, fun h => by cases h⟩
    · have hk1 : (n : Int) ≤ k := by omega
      have e : ps.take k = ps := List.take_of_length_le (by rw [Hn.out]; omega)
      rw [e] at ht ⊢
      clear e
      generalize htt : tot ps = t at *
      have Htt := Held.mk htt
      clear htt
      go_wp2
      go_ret
      refine ⟨_, rfl, rfl, fun h => ?_⟩
      have := of_decide_eq_false h
      have := Htt.out
      omega

theorem read0 (x : Nat) (hx : U64 x) (l : List Int) : uintM ⟨form x ++ l, .ok⟩ x = (x, ⟨l, .ok⟩) := by
  have h : peekM ⟨form x ++ l, .ok⟩ = (x, (form x).length, .ok) := num_form x hx l
  unfold uintM
  rw [h]
  simp
theorem read1 (x : Int) (hx : U64 (zig x)) (l : List Int) : intM ⟨form (zig x) ++ l, .ok⟩ = (x, ⟨l, .ok⟩) := by
  have h : peekM ⟨form (zig x) ++ l, .ok⟩ = (zig x, (form (zig x)).length, .ok) := num_form (zig x) hx l
  unfold intM
  rw [h]
  simp [unzig_zig]
theorem read2 (s : ByteArray) (hs : U64 s.size) (l : List Int) : textM ⟨form s.size ++ (bts s ++ l), .ok⟩ s.size = (bts s, ⟨l, .ok⟩) := by
  have h : peekM ⟨form s.size ++ (bts s ++ l), .ok⟩ = (s.size, (form s.size).length, .ok) := num_form s.size hs (bts s ++ l)
  have hb := bts_length s
  unfold textM
  rw [h]
  simp only
  rw [if_neg (by omega), if_neg (by simp [hb]), List.drop_left, ← List.drop_drop, List.drop_left, ← hb, List.take_left, List.drop_left]

theorem uint_read (ok : Nat → Prop) (B : Nat) (A : Option Addr) (n c : Nat) (x : Nat) (l : List Int) (w : World) (hx : U64 x) (h : Rdr w ok B A n c ⟨form x ++ l, .ok⟩) :
    Calls Try.prog 18 #[.pointer (some ⟨B, 0, none⟩), .int .u64 x] w fun e w' => e = .returned (.int .u64 x) ∧ (∃ A' n' c', Rdr w' ok B A' n' c' ⟨l, .ok⟩) ∧ Keep (fun k => k = B) w w' := by
  have := ruint_any ok B A n c _ x w h
  rw [read0 x hx l] at this
  exact this
theorem int_read (ok : Nat → Prop) (B : Nat) (A : Option Addr) (n c : Nat) (x : Nat) (l : List Int) (w : World) (h : Rdr w ok B A n c ⟨form (zig (toI x)) ++ l, .ok⟩) :
    Calls Try.prog 19 #[.pointer (some ⟨B, 0, none⟩)] w fun e w' => e = .returned (.int .i64 (wrap64 x)) ∧ (∃ A' n' c', Rdr w' ok B A' n' c' ⟨l, .ok⟩) ∧ Keep (fun k => k = B) w w' := by
  have := rint_any ok B A n c _ w h
  rw [read1 (toI x) (zig_U64 (toI_I64 x)) l] at this
  exact this
theorem text_read (ok : Nat → Prop) (B : Nat) (A : Option Addr) (n c : Nat) (s : ByteArray) (l : List Int) (w : World) (hs : s.size ≤ 9223372036854775807) (h : Rdr w ok B A n c ⟨form s.size ++ bts s ++ l, .ok⟩) :
    Calls Try.prog 20 #[.pointer (some ⟨B, 0, none⟩), .int .i64 s.size] w fun e w' => e = .returned (.string s) ∧ (∃ A' n' c', Rdr w' ok B A' n' c' ⟨l, .ok⟩) ∧ Keep (fun k => k = B) w w' := by
  have := rtext_any ok B A n c _ s.size w (by unfold I64; omega) h
  rw [List.append_assoc, read2 s (size_U64 hs) l, str_bts] at this
  exact this
theorem below_keep {W0 : Nat} {w a c : World} {S : Nat → Prop} (h : Below W0 w a) (hk : Keep S a c) (hS : ∀ k, k < W0 → ¬ S k) (hW : W0 ≤ a.heap.size) : Below W0 w c :=
  h.trans ⟨hk.os, hk.tape, hk.output, hk.size, fun k hk' => hk.block k (by omega) (hS k hk')⟩
theorem str_ne (s : ByteArray) : (s != s) = false := by
  show (!(s == s)) = false
  have : (s == s) = true := by
    show (s.data == s.data) = true
    simp
  rw [this]; rfl
def laidAll (ps : List Put) : List Int := ps.flatMap laid
theorem laidAll_snoc (ps : List Put) (p : Put) : laidAll (ps ++ [p]) = laidAll ps ++ laid p := by simp [laidAll]
theorem laid_length (p : Put) (hp : p.Good) : (laid p).length ≤ 9 + p.s.size := by
  unfold laid
  have h1 := form_length p.x hp.x
  have h2 := form_length _ (zig_U64 (toI_I64 p.x))
  have h3 := form_length _ (size_U64 (Nat.le_trans hp.s (by omega)))
  (repeat' split) <;> simp [bts_length] <;> omega
theorem laidAll_drop (ps : List Put) (j : Nat) (h : j < ps.length) : laidAll (ps.drop j) = laid ps[j] ++ laidAll (ps.drop (j + 1)) := by
  rw [List.drop_eq_getElem_cons h]; rfl
theorem laid_byt (p : Put) (hp : p.Good) : Byt (laid p) := by
  unfold laid
  (repeat' split)
  · exact Byt.form _ hp.x
  · exact Byt.form _ (zig_U64 (toI_I64 p.x))
  · exact (Byt.form _ (size_U64 (Nat.le_trans hp.s (by omega)))).append (bts_byt _)
  · exact fun c hc => by cases hc
theorem laidAll_byt (ps : List Put) (h : ∀ p ∈ ps, p.Good) : Byt (laidAll ps) := fun c hc => by
  obtain ⟨p, hp, hc⟩ := List.mem_flatMap.1 hc
  exact laid_byt p (h p hp) c hc
theorem laidAll_length (ps : List Put) (h : ∀ p ∈ ps, p.Good) : (laidAll ps).length ≤ 9 * ps.length + tot ps := by
  induction ps with
  | nil => simp [laidAll, tot]
  | cons p ps ih =>
    have h1 := ih (fun q hq => h q (List.mem_cons_of_mem _ hq))
    have h2 := laid_length p (h p (List.mem_cons_self ..))
    simp only [laidAll, tot, List.flatMap_cons, List.length_append, List.map_cons, List.sum_cons, List.length_cons] at *
    omega
end Wire
end Go.Proofs.Ythkhemcbkcoliaa
