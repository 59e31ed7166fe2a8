/- Legs, the document's Legs, two rows of legs alike: walked. -/
import Derived.Test.YtpbkmkclagikhaaDoorRpt
import Derived.Test.YtpbkmkclagikhaaDoorOpen
import Derived.Deep.RegionHeld3
import Derived.Deep.RegionHeldLaw
import Derived.Deep.DeepCutAuto
import Derived.Deep.CutBlock
namespace Go.Proofs.YtpbkmkclagikhaaDoor
set_option linter.unusedVariables false
set_option linter.unusedSimpArgs false
namespace Prt
open Go.RowKit Mem Dvs Err
structure Lg where
  a : Int
  b : Int
  c : Int
  d : Int
  e : Int
def Lg.cells (p : Lg) : List Value := [.int .i64 p.a, .int .i64 p.b, .int .i64 p.c, .int .i64 p.d, .int .i64 p.e]
theorem Lg.cells_len (p : Lg) : p.cells.length = 5 := rfl
theorem Lg.one_ (p : Lg) : ∀ u ∈ p.cells, u.oneCell' = true := by
  intro u hu
  simp only [Lg.cells, List.mem_cons, List.not_mem_nil, or_false] at hu
  rcases hu with rfl | rfl | rfl | rfl | rfl <;> rfl
def inr (n : Int) : Bool := decide (0 ≤ n) && decide (n < 65536)
set_option maxHeartbeats 1000000 in
set_option maxRecDepth 100000 in
theorem between_in (n : Int) (w : World) : Calls Tryd.prog 35 #[.int .i64 n, .int .i64 65536] w fun e w' => e = .returned (.bool (inr n)) ∧ w' = w := by
  unfold inr
  by_cases h : 0 ≤ n
  · have i1 : decide (0 ≤ n) = true := decide_eq_true h
    clear h
    go_enter Tryd.func35, Tryd.ntmps35
    go_wp2
    go_ret
    exact ⟨by simp [i1], rfl⟩
  · have i1 : decide (0 ≤ n) = false := decide_eq_false h
    clear h
    go_enter Tryd.func35, Tryd.ntmps35
    go_wp2
    go_ret
    exact ⟨by simp [i1], rfl⟩
set_option maxHeartbeats 1000000 in
set_option maxRecDepth 100000 in
theorem account_in (n : Int) (w : World) : Calls Tryd.prog 33 #[.int .i64 n] w fun e w' => e = .returned (.bool (inr n)) ∧ w' = w := by
  unfold inr
  by_cases h : 0 ≤ n
  · have i1 : decide (0 ≤ n) = true := decide_eq_true h
    clear h
    go_enter Tryd.func33, Tryd.ntmps33
    go_wp2
    go_ret
    exact ⟨by simp [i1], rfl⟩
  · have i1 : decide (0 ≤ n) = false := decide_eq_false h
    clear h
    go_enter Tryd.func33, Tryd.ntmps33
    go_wp2
    go_ret
    exact ⟨by simp [i1], rfl⟩
set_option maxHeartbeats 1000000 in
set_option maxRecDepth 100000 in
theorem asset_in (n : Int) (w : World) : Calls Tryd.prog 34 #[.int .i64 n] w fun e w' => e = .returned (.bool (inr n)) ∧ w' = w := by
  unfold inr
  by_cases h : 0 ≤ n
  · have i1 : decide (0 ≤ n) = true := decide_eq_true h
    clear h
    go_enter Tryd.func34, Tryd.ntmps34
    go_wp2
    go_ret
    exact ⟨by simp [i1], rfl⟩
  · have i1 : decide (0 ≤ n) = false := decide_eq_false h
    clear h
    go_enter Tryd.func34, Tryd.ntmps34
    go_wp2
    go_ret
    exact ⟨by simp [i1], rfl⟩
/-- What Legs answers: a code, the legs. -/
def LegsR (x0 x1 x2 x3 x4 x5 k : Int) (L : List Lg) : Prop :=
  (inr x0 = false ∧ k = 14 ∧ L = []) ∨ (inr x0 = true ∧ inr x1 = false ∧ k = 14 ∧ L = []) ∨ (inr x0 = true ∧ inr x1 = true ∧ (x0 == x1) = true ∧ k = 17 ∧ L = []) ∨
  (inr x0 = true ∧ inr x1 = true ∧ (x0 == x1) = false ∧ inr x2 = false ∧ k = 15 ∧ L = []) ∨ (inr x0 = true ∧ inr x1 = true ∧ (x0 == x1) = false ∧ inr x2 = true ∧ inr x3 = false ∧ k = 15 ∧ L = []) ∨
  (inr x0 = true ∧ inr x1 = true ∧ (x0 == x1) = false ∧ inr x2 = true ∧ inr x3 = true ∧ (x2 == x3) = true ∧ k = 15 ∧ L = []) ∨
  (inr x0 = true ∧ inr x1 = true ∧ (x0 == x1) = false ∧ inr x2 = true ∧ inr x3 = true ∧ (x2 == x3) = false ∧ decide (x4 < 1) = true ∧ k = 16 ∧ L = []) ∨
  (inr x0 = true ∧ inr x1 = true ∧ (x0 == x1) = false ∧ inr x2 = true ∧ inr x3 = true ∧ (x2 == x3) = false ∧ decide (x4 < 1) = false ∧ decide (x5 < 0) = true ∧ k = 16 ∧ L = []) ∨
  (inr x0 = true ∧ inr x1 = true ∧ (x0 == x1) = false ∧ inr x2 = true ∧ inr x3 = true ∧ (x2 == x3) = false ∧ decide (x4 < 1) = false ∧ decide (x5 < 0) = false ∧ decide (0 < x5) = false ∧ k = 0 ∧ L = [⟨x0, x1, x2, x4, 0⟩]) ∨
  (inr x0 = true ∧ inr x1 = true ∧ (x0 == x1) = false ∧ inr x2 = true ∧ inr x3 = true ∧ (x2 == x3) = false ∧ decide (x4 < 1) = false ∧ decide (x5 < 0) = false ∧ decide (0 < x5) = true ∧ k = 0 ∧ L = [⟨x0, x1, x2, x4, 0⟩, ⟨x1, x0, x3, x5, 0⟩])
theorem legs_all (x0 x1 x2 x3 x4 x5 : Int) : ∃ k L, LegsR x0 x1 x2 x3 x4 x5 k L := by
  unfold LegsR
  cases h0 : inr x0
  · exact ⟨14, [], .inl ⟨rfl, rfl, rfl⟩⟩
  cases h1 : inr x1
  · exact ⟨14, [], .inr (.inl ⟨rfl, rfl, rfl, rfl⟩)⟩
  cases h2 : (x0 == x1)
  rotate_left
  · exact ⟨17, [], .inr (.inr (.inl ⟨rfl, rfl, rfl, rfl, rfl⟩))⟩
  cases h3 : inr x2
  · exact ⟨15, [], .inr (.inr (.inr (.inl ⟨rfl, rfl, rfl, rfl, rfl, rfl⟩)))⟩
  cases h4 : inr x3
  · exact ⟨15, [], .inr (.inr (.inr (.inr (.inl ⟨rfl, rfl, rfl, rfl, rfl, rfl, rfl⟩))))⟩
  cases h5 : (x2 == x3)
  rotate_left
  · exact ⟨15, [], .inr (.inr (.inr (.inr (.inr (.inl ⟨rfl, rfl, rfl, rfl, rfl, rfl, rfl, rfl⟩)))))⟩
  cases h6 : decide (x4 < 1)
  rotate_left
  · exact ⟨16, [], .inr (.inr (.inr (.inr (.inr (.inr (.inl ⟨rfl, rfl, rfl, rfl, rfl, rfl, rfl, rfl, rfl⟩))))))⟩
  cases h7 : decide (x5 < 0)
  rotate_left
  · exact ⟨16, [], .inr (.inr (.inr (.inr (.inr (.inr (.inr (.inl ⟨rfl, rfl, rfl, rfl, rfl, rfl, rfl, rfl, rfl, rfl⟩)))))))⟩
  cases h8 : decide (0 < x5)
  · exact ⟨0, _, .inr (.inr (.inr (.inr (.inr (.inr (.inr (.inr (.inl ⟨rfl, rfl, rfl, rfl, rfl, rfl, rfl, rfl, rfl, rfl, rfl⟩))))))))⟩
  · exact ⟨0, _, .inr (.inr (.inr (.inr (.inr (.inr (.inr (.inr (.inr ⟨rfl, rfl, rfl, rfl, rfl, rfl, rfl, rfl, rfl, rfl, rfl⟩))))))))⟩
def RdLg (w : World) (ok : Nat → Prop) (A : Option Addr) (L : List Lg) : Prop := RdV w ok 5 A L.length (L.flatMap Lg.cells)
theorem RdLg.at_ {w : World} {ok : Nat → Prop} {A : Option Addr} {L : List Lg} (h : RdLg w ok A L) {k : Nat} (hk : k < L.length) : ∃ ad, A = some ad ∧ ok ad.block ∧
    w.cell? (ad.add (k * 5)) = some (.int .i64 L[k].a) ∧ w.cell? ⟨(ad.add (k * 5)).block, (ad.add (k * 5)).off + 1, none⟩ = some (.int .i64 L[k].b) ∧ w.cell? ⟨(ad.add (k * 5)).block, (ad.add (k * 5)).off + 2, none⟩ = some (.int .i64 L[k].c) ∧ w.cell? ⟨(ad.add (k * 5)).block, (ad.add (k * 5)).off + 3, none⟩ = some (.int .i64 L[k].d) ∧ w.cell? ⟨(ad.add (k * 5)).block, (ad.add (k * 5)).off + 4, none⟩ = some (.int .i64 L[k].e) := by
  obtain ⟨ad, e, hb, hc⟩ := h.2 (by omega)
  refine ⟨ad, e, hb, ?_, ?_, ?_, ?_, ?_⟩
  · exact hc _ _ (by rw [← Nat.add_zero (k * 5), Law.flat_get Lg.cells 5 Lg.cells_len L k 0 hk (by omega)]; rfl)
  · have := hc (k * 5 + 1) _ (by rw [Law.flat_get Lg.cells 5 Lg.cells_len L k 1 hk (by omega)]; rfl)
    rw [← add_of_add] at this
    exact this
  · have := hc (k * 5 + 2) _ (by rw [Law.flat_get Lg.cells 5 Lg.cells_len L k 2 hk (by omega)]; rfl)
    rw [← add_of_add] at this
    exact this
  · have := hc (k * 5 + 3) _ (by rw [Law.flat_get Lg.cells 5 Lg.cells_len L k 3 hk (by omega)]; rfl)
    rw [← add_of_add] at this
    exact this
  · have := hc (k * 5 + 4) _ (by rw [Law.flat_get Lg.cells 5 Lg.cells_len L k 4 hk (by omega)]; rfl)
    rw [← add_of_add] at this
    exact this
set_option maxHeartbeats 4000000 in
set_option maxRecDepth 100000 in
theorem sameLegs_in (ok ok2 : Nat → Prop) (A A2 : Option Addr) (c c2 : Nat) (L : List Lg) (w : World) (hr : RdLg w ok A L) (hr2 : RdLg w ok2 A2 L) (hn : L.length ≤ 1000000000000) :
    Calls Tryd.prog 17 #[.slice A L.length c, .slice A2 L.length c2] w fun e w' => e = .returned (.bool true) ∧ ∃ m, w' = w.drewN m := by
  have Hr := Held.mk hr
  have Hr2 := Held.mk hr2
  have hnI : (L.length : Int) ≤ 9223372036854775807 := by omega
  clear hr hr2 hn
  go_enter Tryd.func17, Tryd.ntmps17
  go_wp2_with fail
  go_loopw [5] (fun i wr => ∃ (k m : Nat), i = .int .i64 k ∧ k ≤ L.length ∧ wr = w.drewN m) (fun i _ => L.length - (intOf i).toNat)
  case atStart => exact ⟨0, 0, rfl, Nat.zero_le _, rfl⟩
  case round =>
    obtain ⟨k, m, rfl, hk, rfl⟩ := hrel
    by_cases hlt : k < L.length
    · obtain ⟨ad, rfl, _, a0, a1, a2, a3, a4⟩ := RdLg.at_ Hr.out hlt
      obtain ⟨ad2, rfl, _, d0, d1, d2, d3, d4⟩ := RdLg.at_ Hr2.out hlt
      generalize L[k].a = z0 at *
      generalize L[k].b = z1 at *
      generalize L[k].c = z2 at *
      generalize L[k].d = z3 at *
      generalize L[k].e = z4 at *
      go_wp2_with fail
      go_quiet (fail)
      go_wp2_with fail
      go_roundw
      case rel => exact ⟨k + 1, _, by go_num, by omega, rfl⟩
      case measure => simp [intOf]; omega
    · go_wp2
      go_ret
      exact ⟨rfl, _, rfl⟩
end Prt
end Go.Proofs.YtpbkmkclagikhaaDoor
