/- Write: walked. -/
import Derived.Test.YtihgmlcmdpmhhaaDdo
namespace Go.Proofs.Ytihgmlcmdpmhhaa
set_option linter.unusedVariables false
set_option linter.unusedSimpArgs false
namespace Jrn
open Go.RowKit Mem Apn
theorem goodAdd {s : DS} {b : List Int} {n : Nat} (h : s.Good) (hn : n + s.B.length ≤ 67108864) (hb : b.length = n) : (addS s b).Good :=
  ⟨by simp [addS]; have := h.least; omega, by simp [addS]; omega, h.ld, h.failed, h.inn, h.keep⟩
theorem goodCut {s : DS} {n : Nat} (h : s.Good) (hn : n ≤ s.B.length) : (cutS s n).Good :=
  ⟨by simp [cutS]; omega, by simp [cutS]; have := h.lb; omega, h.ld, h.failed, h.inn, h.keep⟩
/-- Write: what the disk is, what is told. -/
def writeS (s : DS) (b : List Int) : DS × Value :=
  if s.dead then (s, deadV ⟨#[119, 114, 105, 116, 101]⟩)
  else if 67108864 < s.B.length + b.length then (s, .iface 71 (.agg #[.string ⟨#[119, 114, 105, 116, 101]⟩, .int .i64 5]))
  else ((doesS (addS s b)).1, errW ⟨#[119, 114, 105, 116, 101]⟩ (doesS (addS s b)).2)
set_option maxHeartbeats 2000000 in
set_option maxRecDepth 100000 in
theorem write_any (F : Nat → Prop) (P : Nat) (s : DS) (ok : Nat → Prop) (A : Option Addr) (n c : Nat) (b : List Int) (w : World) (h : Dk w F P s) (hs : s.Good) (hr : RdN w ok .u8 A n b) (hF : ∀ k, F k → k < w.heap.size) (hn : n ≤ 140737488355328) :
    Calls Try.prog 32 #[.pointer (some ⟨P, 0, none⟩), .slice A n c] w fun e w' => e = .returned (writeS s b).2 ∧ Dk w' (Nw F w w') P (writeS s b).1 ∧ Keep F w w' := by
  have HD := Held.mk h
  have hbl := hr.len
  obtain ⟨v1, v2, armed, inn, h1, h2, h3, h4, h5, h6, h7⟩ := h.ex
  obtain ⟨A1, c1, rfl, hc1, hr1⟩ := rd_own h2
  have hlb := hs.lb
  have hk : Keep (fun _ => False) w ((w.alloc (.cells #[.pointer (some ⟨P, 0, none⟩)] 35)).alloc (.cells #[.slice A n c] 23)) := ((Keep.refl _ w).alloc _).alloc _
  have HKa := Held.mk hk
  have p0 := hk.cell (h1.cell 0) (fun h => h)
  have p3 := hk.cell (h1.cell 3) (fun h => h)
  have HX := Held.mk ((Blk.new w 35 #[.pointer (some ⟨P, 0, none⟩)]).alloc (.cells #[.slice A n c] 23))
  have HZ : Held (Blk ((w.alloc (.cells #[.pointer (some ⟨P, 0, none⟩)] 35)).alloc (.cells #[.slice A n c] 23)) (w.heap.size + 1) 23 #[.slice A n c]) := ⟨by
    have := Blk.new (w.alloc (.cells #[.pointer (some ⟨P, 0, none⟩)] 35)) 23 #[.slice A n c]
    rw [World.size_alloc] at this
    exact this⟩
  have e1 := HX.out.cell 0
  have e2 := HZ.out.cell 0
  have HR := Held.mk hr
  clear h h1 h2 h3 h4 h5 h6 h7 hr1 hk hr
  obtain ⟨m, hm⟩ : ∃ m, s.B.length = m := ⟨_, rfl⟩
  rw [hm] at p0 hlb
  cases hd : s.dead with
  | true =>
    rw [hd] at p3
    have e9 : writeS s b = (s, deadV ⟨#[119, 114, 105, 116, 101]⟩) := by unfold writeS; rw [if_pos hd]
    go_enter Try.func32, Try.ntmps32
    go_wp2_with fail
    refine (dead_any _ _).mono ?_
    rintro e w2 ⟨rfl, rfl⟩
    go_wp2_with fail
    go_ret
    rw [e9]
    exact ⟨rfl, (HD.out.keep_ HKa.out (fun _ _ _ h => h)).mono (fun j h => .inl h), HKa.out.mono (fun _ _ h => h.elim)⟩
  | false =>
    rw [hd] at p3
    by_cases hf : 67108864 < m + n
    · have i1 : decide (67108864 - (m : Int) < (n : Int)) = true := decide_eq_true (by omega)
      have e9 : writeS s b = (s, .iface 71 (.agg #[.string ⟨#[119, 114, 105, 116, 101]⟩, .int .i64 5])) := by unfold writeS; rw [if_neg (by simp [hd]), if_pos (by omega)]
      go_enter Try.func32, Try.ntmps32
      go_wp2_with fail
      go_quiet (fail)
      go_wp2_with fail
      go_ret
      rw [e9]
      exact ⟨rfl, ((HD.out.keep_ HKa.out (fun _ _ _ h => h)).keep_ ((Keep.refl (fun _ => False) _).drewN _) (fun _ _ _ h => h)).mono (fun j h => .inl h), (HKa.out.drewN _).mono (fun _ _ h => h.elim)⟩
    · have i1 : decide (67108864 - (m : Int) < (n : Int)) = false := decide_eq_false (by omega)
      have e9 : writeS s b = ((doesS (addS s b)).1, errW ⟨#[119, 114, 105, 116, 101]⟩ (doesS (addS s b)).2) := by unfold writeS; rw [if_neg (by simp [hd]), if_neg (by omega)]
      have hnm : n + s.B.length ≤ 67108864 := by omega
      have HWr : Held (∀ q, Calls Try.prog 41 #[.pointer (some ⟨P, 0, none⟩), .string ⟨#[119, 114, 105, 116, 101]⟩, .func (.func 44) #[] #[.pointer (some ⟨w.heap.size, 0, none⟩), .pointer (some ⟨w.heap.size + 1, 0, none⟩)]] (((w.alloc (.cells #[.pointer (some ⟨P, 0, none⟩)] 35)).alloc (.cells #[.slice A n c] 23)).drewN q) fun e w' => e = .returned (errW ⟨#[119, 114, 105, 116, 101]⟩ (doesS (addS s b)).2) ∧ Dk w' (Nw F w w') P (doesS (addS s b)).1 ∧ Keep F w w') := ⟨fun q => by
        have hkq : Keep (fun _ => False) w (((w.alloc (.cells #[.pointer (some ⟨P, 0, none⟩)] 35)).alloc (.cells #[.slice A n c] 23)).drewN q) := HKa.out.drewN q
        have hDq := HD.out.keep_ hkq (fun _ _ _ h => h)
        have hRq : RdN (((w.alloc (.cells #[.pointer (some ⟨P, 0, none⟩)] 35)).alloc (.cells #[.slice A n c] 23)).drewN q) ok .u8 A n b := RdV.keep HR.out hkq (fun _ _ h => h)
        have hop := write1_any F P w.heap.size (w.heap.size + 1) s ok A n c b _ hDq hs (HX.out.drewN q) (HZ.out.drewN q) hRq (by omega) (fun h => by have := hF _ h; omega) (fun h => by have := hF _ h; omega)
        refine (does_write w.heap.size (w.heap.size + 1) F P (addS s b) _ _ hop (goodAdd hs hnm hbl) (fun k hk => Nat.lt_of_lt_of_le (hF k hk) hkq.size)).mono ?_
        rintro e w' ⟨he, hd', hk'⟩
        exact ⟨he, hd'.mono (fun j h => h.imp id fun h => ⟨Nat.le_trans hkq.size h.1, h.2⟩), (hkq.mono (fun _ _ h => h.elim)).trans hk'⟩⟩
      go_enter Try.func32, Try.ntmps32
      go_wp2_with fail
      go_quiet (fail)
      go_wp2_with fail
      refine (HWr.out _).mono ?_
      rintro e w2 ⟨rfl, hD2, hK2⟩
      have H2 := Held.mk (And.intro hD2 hK2)
      clear hD2 hK2
      go_wp2_with fail
      go_ret
      rw [e9]
      exact ⟨rfl, H2.out⟩
end Jrn
end Go.Proofs.Ytihgmlcmdpmhhaa
