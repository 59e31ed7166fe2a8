/- Cut, Sync, Crash: walked. -/
import Derived.Test.YtihgmlcmdpmhhaaDdp
namespace Go.Proofs.Ytihgmlcmdpmhhaa
set_option linter.unusedVariables false
set_option linter.unusedSimpArgs false
namespace Jrn
open Go.RowKit Mem Apn
/-- Cut: what the disk is, what is told. -/
def cutOp (s : DS) (n : Int) : DS × Value :=
  if s.dead then (s, .iface 60 (.int .i64 23))
  else if n < 0 ∨ (s.B.length : Int) < n then (s, .iface 71 (.agg #[.string ⟨#[99, 117, 116]⟩, .int .i64 1]))
  else ((doesS (cutS s n.toNat)).1, errW ⟨#[99, 117, 116]⟩ (doesS (cutS s n.toNat)).2)
set_option maxHeartbeats 2000000 in
set_option maxRecDepth 100000 in
theorem cut_any (F : Nat → Prop) (P : Nat) (s : DS) (n : Int) (w : World) (h : Dk w F P s) (hs : s.Good) (hF : ∀ k, F k → k < w.heap.size) :
    Calls Try.prog 30 #[.pointer (some ⟨P, 0, none⟩), .int .i64 n] w fun e w' => e = .returned (cutOp s n).2 ∧ Dk w' (Nw F w w') P (cutOp s n).1 ∧ Keep F w w' := by
  have HD := Held.mk h
  obtain ⟨v1, v2, armed, inn, h1, h2, h3, h4, h5, h6, h7⟩ := h.ex
  obtain ⟨A1, c1, rfl, hc1, hr1⟩ := rd_own h2
  have hlb := hs.lb
  have hk : Keep (fun _ => False) w ((w.alloc (.cells #[.pointer (some ⟨P, 0, none⟩)] 35)).alloc (.cells #[.int .i64 n] 3)) := ((Keep.refl _ w).alloc _).alloc _
  have HKa := Held.mk hk
  have p0 := hk.cell (h1.cell 0) (fun h => h)
  have p3 := hk.cell (h1.cell 3) (fun h => h)
  have HX := Held.mk ((Blk.new w 35 #[.pointer (some ⟨P, 0, none⟩)]).alloc (.cells #[.int .i64 n] 3))
  have HZ : Held (Blk ((w.alloc (.cells #[.pointer (some ⟨P, 0, none⟩)] 35)).alloc (.cells #[.int .i64 n] 3)) (w.heap.size + 1) 3 #[.int .i64 n]) := ⟨by
    have := Blk.new (w.alloc (.cells #[.pointer (some ⟨P, 0, none⟩)] 35)) 3 #[.int .i64 n]
    rw [World.size_alloc] at this
    exact this⟩
  have e1 := HX.out.cell 0
  have e2 := HZ.out.cell 0
  clear h h1 h2 h3 h4 h5 h6 h7 hr1 hk
  obtain ⟨m, hm⟩ : ∃ m, s.B.length = m := ⟨_, rfl⟩
  rw [hm] at p0 hlb
  cases hd : s.dead with
  | true =>
    rw [hd] at p3
    have e9 : cutOp s n = (s, .iface 60 (.int .i64 23)) := by unfold cutOp; rw [if_pos hd]
    go_enter Try.func30, Try.ntmps30
    go_wp2_with fail
    go_ret
    rw [e9]
    exact ⟨rfl, (HD.out.keep_ HKa.out (fun _ _ _ h => h)).mono (fun j h => .inl h), HKa.out.mono (fun _ _ h => h.elim)⟩
  | false =>
    rw [hd] at p3
    by_cases hf : n < 0 ∨ (m : Int) < n
    · have e9 : cutOp s n = (s, .iface 71 (.agg #[.string ⟨#[99, 117, 116]⟩, .int .i64 1])) := by unfold cutOp; rw [if_neg (by simp [hd]), if_pos (by rw [hm]; exact hf)]
      by_cases h0 : n < 0
      · have i1 : decide (n < 0) = true := decide_eq_true h0
        clear hf
        go_enter Try.func30, Try.ntmps30
        go_wp2_with fail
        go_quiet (fail)
        go_wp2_with fail
        go_ret
        rw [e9]
        exact ⟨rfl, ((HD.out.keep_ HKa.out (fun _ _ _ h => h)).keep_ ((Keep.refl (fun _ => False) _).drewN _) (fun _ _ _ h => h)).mono (fun j h => .inl h), (HKa.out.drewN _).mono (fun _ _ h => h.elim)⟩
      · have i1 : decide (n < 0) = false := decide_eq_false h0
        have i2 : decide ((m : Int) < n) = true := decide_eq_true (by omega)
        clear hf
        go_enter Try.func30, Try.ntmps30
        go_wp2_with fail
        go_quiet (fail)
        go_wp2_with fail
        go_ret
        rw [e9]
        exact ⟨rfl, ((HD.out.keep_ HKa.out (fun _ _ _ h => h)).keep_ ((Keep.refl (fun _ => False) _).drewN _) (fun _ _ _ h => h)).mono (fun j h => .inl h), (HKa.out.drewN _).mono (fun _ _ h => h.elim)⟩
    · have e9 : cutOp s n = ((doesS (cutS s n.toNat)).1, errW ⟨#[99, 117, 116]⟩ (doesS (cutS s n.toNat)).2) := by unfold cutOp; rw [if_neg (by simp [hd]), if_neg (by rw [hm]; exact hf)]
      obtain ⟨k, rfl⟩ : ∃ k : Nat, n = (k : Int) := ⟨n.toNat, by omega⟩
      rw [Int.toNat_natCast] at e9
      have hkm : k ≤ s.B.length := by omega
      have i1 : decide ((k : Int) < 0) = false := decide_eq_false (by omega)
      have i2 : decide ((m : Int) < (k : Int)) = false := decide_eq_false (by omega)
      have HWr : Held (∀ q, Calls Try.prog 41 #[.pointer (some ⟨P, 0, none⟩), .string ⟨#[99, 117, 116]⟩, .func (.func 42) #[] #[.pointer (some ⟨w.heap.size, 0, none⟩), .pointer (some ⟨w.heap.size + 1, 0, none⟩)]] (((w.alloc (.cells #[.pointer (some ⟨P, 0, none⟩)] 35)).alloc (.cells #[.int .i64 (k : Int)] 3)).drewN q) fun e w' => e = .returned (errW ⟨#[99, 117, 116]⟩ (doesS (cutS s k)).2) ∧ Dk w' (Nw F w w') P (doesS (cutS s k)).1 ∧ Keep F w w') := ⟨fun q => by
        have hkq : Keep (fun _ => False) w (((w.alloc (.cells #[.pointer (some ⟨P, 0, none⟩)] 35)).alloc (.cells #[.int .i64 (k : Int)] 3)).drewN q) := HKa.out.drewN q
        have hDq := HD.out.keep_ hkq (fun _ _ _ h => h)
        have hop := (cut1_any F P w.heap.size (w.heap.size + 1) s k _ hDq hs (HX.out.drewN q) (HZ.out.drewN q) hkm (fun h => by have := hF _ h; omega) (fun h => by have := hF _ h; omega)).mono (fun e w' h => (⟨h.1, h.2.1.mono (fun j h => .inl h), h.2.2⟩ : e = .returned (.tuple #[]) ∧ Dk w' (Nw F (((w.alloc (.cells #[.pointer (some ⟨P, 0, none⟩)] 35)).alloc (.cells #[.int .i64 (k : Int)] 3)).drewN q) w') P (cutS s k) ∧ Keep F (((w.alloc (.cells #[.pointer (some ⟨P, 0, none⟩)] 35)).alloc (.cells #[.int .i64 (k : Int)] 3)).drewN q) w'))
        refine (does_cut w.heap.size (w.heap.size + 1) F P (cutS s k) _ _ hop (goodCut hs hkm) (fun k hk => Nat.lt_of_lt_of_le (hF k hk) hkq.size)).mono ?_
        rintro e w' ⟨he, hd', hk'⟩
        exact ⟨he, hd'.mono (fun j h => h.imp id fun h => ⟨Nat.le_trans hkq.size h.1, h.2⟩), (hkq.mono (fun _ _ h => h.elim)).trans hk'⟩⟩
      clear hf
      go_enter Try.func30, Try.ntmps30
      go_wp2_with fail
      go_quiet (fail)
      go_wp2_with fail
      refine (HWr.out _).mono ?_
      rintro e w2 ⟨rfl, hD2, hK2⟩
      have H2 := Held.mk (And.intro hD2 hK2)
      clear hD2 hK2
      go_wp2_with fail
      go_ret
      rw [e9]
      exact ⟨rfl, H2.out⟩
set_option maxHeartbeats 1000000 in
set_option maxRecDepth 100000 in
theorem nothing_any (P : Nat) (w : World) : Calls Try.prog 43 #[.pointer (some ⟨P, 0, none⟩)] w fun e w' => e = .returned (.tuple #[]) ∧ w' = w := by
  go_enter Try.func43, Try.ntmps43
  go_wp2
  go_end0
  exact ⟨rfl, rfl⟩
set_option maxHeartbeats 2000000 in
set_option maxRecDepth 100000 in
theorem crash_any (F : Nat → Prop) (P : Nat) (s : DS) (k : Int) (w : World) (h : Dk w F P s) (hs : s.Good) (hF : ∀ k, F k → k < w.heap.size) :
    Calls Try.prog 21 #[.pointer (some ⟨P, 0, none⟩), .agg #[.int .i64 k]] w fun e w' => e = .returned (.tuple #[]) ∧ Dk w' (Nw F w w') P (crashS s k) ∧ Keep F w w' := by
  have HD := Held.mk h
  obtain ⟨v1, v2, armed, inn, h1, h2, h3, h4, h5, h6, h7⟩ := h.ex
  have hk : Keep (fun _ => False) w (w.alloc (.cells #[.int .i64 k] 50)) := (Keep.refl _ w).alloc _
  have HKa := Held.mk hk
  have p3 := hk.cell (h1.cell 3) (fun h => h)
  have e0 : (w.alloc (.cells #[.int .i64 k] 50)).cell? ⟨w.heap.size, 0, none⟩ = some (.int .i64 k) := (Blk.new w 50 #[.int .i64 k]).cell 0
  have HFl := Held.mk (fail_any F P s k (w.alloc (.cells #[.int .i64 k] 50)) (h.keep_ hk (fun _ _ _ h => h)).zero hs)
  have hpF := h.pF
  clear h h1 h2 h3 h4 h5 h6 h7 hk
  cases hd : s.dead with
  | true =>
    rw [hd] at p3
    have e9 : crashS s k = s := by unfold crashS; rw [if_pos hd]
    go_enter Try.func21, Try.ntmps21
    go_wp2_with fail
    go_end0
    rw [e9]
    exact ⟨rfl, (HD.out.keep_ HKa.out (fun _ _ _ h => h)).mono (fun j h => .inl h), HKa.out.mono (fun _ _ h => h.elim)⟩
  | false =>
    rw [hd] at p3
    have e9 : crashS s k = failS s k := by unfold crashS; rw [if_neg (by simp [hd])]
    go_enter Try.func21, Try.ntmps21
    go_wp2_with fail
    refine HFl.out.mono ?_
    rintro e w2 ⟨rfl, hD2, hK2⟩
    have H2 := Held.mk (And.intro hD2 hK2)
    clear hD2 hK2
    go_wp2_with fail
    go_end0
    rw [e9]
    exact ⟨rfl, H2.out.1.mono (fun j h => h.imp id fun h => ⟨Nat.le_trans HKa.out.size h.1, h.2⟩), (HKa.out.mono (fun _ _ h => h.elim)).trans (H2.out.2.mono (fun j _ h => h ▸ hpF))⟩
end Jrn
end Go.Proofs.Ytihgmlcmdpmhhaa
