/- Sync: walked. -/
import Derived.Test.YtihgmlcmdpmhhaaDdq
namespace Go.Proofs.Ytihgmlcmdpmhhaa
set_option linter.unusedVariables false
set_option linter.unusedSimpArgs false
namespace Jrn
open Go.RowKit Mem Apn
/-- Sync: what the disk is, what is told. -/
def syncS (s : DS) : DS × Value :=
  if s.dead then (s, deadV ⟨#[115, 121, 110, 99]⟩)
  else match doesS s with
    | (s1, true) => (s1, deadV ⟨#[115, 121, 110, 99]⟩)
    | (s1, false) => (⟨s1.B, s1.B, s1.B.length, s1.dead, s1.failed, s1.inn, s1.keep⟩, .nilIface)
theorem doesS_lb (s : DS) (h : s.Good) (hb : (doesS s).2 = false) : (doesS s).1.B = s.B := by
  unfold doesS at hb ⊢
  split
  · rfl
  · split
    · rfl
    · rename_i h1 h2
      rw [if_neg h1, if_neg h2] at hb
      cases hb
set_option maxHeartbeats 4000000 in
set_option maxRecDepth 100000 in
theorem sync_any (F : Nat → Prop) (P : Nat) (s : DS) (w : World) (h : Dk w F P s) (hs : s.Good) (hF : ∀ k, F k → k < w.heap.size) :
    Calls Try.prog 31 #[.pointer (some ⟨P, 0, none⟩)] w fun e w' => e = .returned (syncS s).2 ∧ Dk w' (Nw F w w') P (syncS s).1 ∧ Keep F w w' := by
  have HD := Held.mk h
  obtain ⟨v1, v2, armed, inn, h1, _⟩ := h.ex
  have p3 := h1.cell 3
  have hop := (nothing_any P w).mono (fun e w' hh => (⟨hh.1, by rw [hh.2]; exact h.mono (fun j h => .inl h), by rw [hh.2]; exact Keep.refl _ _⟩ : e = .returned (.tuple #[]) ∧ Dk w' (Nw F w w') P s ∧ Keep F w w'))
  have HDo := Held.mk (does_sync F P s ⟨#[115, 121, 110, 99]⟩ w hop hs hF)
  have hlb := doesS_lb s hs
  have hl0 := hs.lb
  have hpF := Held.mk h.pF
  have hPl := Held.mk h.lt
  clear h h1 hop
  cases hd : s.dead with
  | true =>
    rw [hd] at p3
    have e9 : syncS s = (s, deadV ⟨#[115, 121, 110, 99]⟩) := by unfold syncS; rw [if_pos hd]
    go_enter Try.func31, Try.ntmps31
    go_wp2_with fail
    refine (dead_any _ _).mono ?_
    rintro e w2 ⟨rfl, rfl⟩
    go_wp2_with fail
    go_ret
    rw [e9]
    exact ⟨rfl, HD.out.mono (fun j h => .inl h), Keep.refl _ _⟩
  | false =>
    rw [hd] at p3
    obtain ⟨s1, bf, hds⟩ : ∃ s1 bf, doesS s = (s1, bf) := ⟨_, _, rfl⟩
    rw [hds] at HDo hlb
    simp only at HDo hlb
    cases bf with
    | true =>
      have e9 : syncS s = (s1, deadV ⟨#[115, 121, 110, 99]⟩) := by unfold syncS; rw [if_neg (by simp [hd]), hds]
      clear hlb
      simp only [errW, deadV] at HDo
      go_enter Try.func31, Try.ntmps31
      go_wp2_with fail
      refine HDo.out.mono ?_
      rintro e w2 ⟨rfl, hD2, hK2⟩
      have H2 := Held.mk (And.intro hD2 hK2)
      clear hD2 hK2
      go_wp2_with fail
      go_ret
      rw [e9]
      exact ⟨rfl, H2.out⟩
    | false =>
      have e9 : syncS s = (⟨s1.B, s1.B, s1.B.length, s1.dead, s1.failed, s1.inn, s1.keep⟩, .nilIface) := by unfold syncS; rw [if_neg (by simp [hd]), hds]
      have hB1 := hlb rfl
      clear hlb
      simp only [errW] at HDo
      go_enter Try.func31, Try.ntmps31
      go_wp2_with fail
      refine HDo.out.mono ?_
      rintro e w2 ⟨rfl, hD2, hK2⟩
      obtain ⟨v1, v2, armed, inn, h1, h2, h3, h4, h5, h6, h7⟩ := hD2.ex
      obtain ⟨A1, c1, rfl, hc1, hr1⟩ := rd_own h2
      have p0 := h1.cell 0
      have HB2 := Held.mk h1
      have HO2 := Held.mk h2
      have HAr := Held.mk h5
      have HF2 := Held.mk h6
      have HK2 := Held.mk hK2
      have HPF := Held.mk hD2.pF
      obtain ⟨m, hm⟩ : ∃ m, s1.B.length = m := ⟨_, rfl⟩
      have hmb : m ≤ 140737488355328 := by rw [← hm, hB1]; exact hl0
      have HOw := Held.mk (own_any _ A1 s1.B.length c1 s1.B w2 hr1 (by omega))
      rw [hm] at p0 HOw
      clear hD2 hK2 h1 h2 h3 h4 h5 h6 h7 hr1 hc1
      go_wp2_with fail
      refine HOw.out.mono ?_
      rintro e w3 ⟨v3, rfl, ho3, hb3⟩
      obtain ⟨A3, e3⟩ := ho3.2
      subst e3
      have HO3 := Held.mk ho3.1
      have HB3 := Held.mk hb3
      have hB3 := HB2.out.keep (Keep.of_below hb3 (fun _ => False)) (fun h => h)
      have HBk3 := Held.mk hB3
      have y0 := hB3.cell 0
      have y1 := hB3.cell 1
      have y2 := hB3.cell 2
      have f1 := hB3.frozen 1
      have f2 := hB3.frozen 2
      rw [hm] at y0 ⊢
      clear ho3 hb3 hB3 HOw p0
      go_wp2_with fail
      go_ret
      rw [e9]
      have hkf := (kp (P := P) (i := 1) (w := w3) (.slice A3 m m)).trans (kp (P := P) (i := 2) (.int .i64 (m : Int)))
      have hbf := (HBk3.out.set_ 1 (.slice A3 m m)).set_ 2 (.int .i64 (m : Int))
      have hsz : w.heap.size ≤ w2.heap.size := HK2.out.size
      have ho2' := (Keep.of_below HB3.out (fun _ => False)).own HO2.out (fun _ _ h => h)
      have HO3' : OwnN w3 0 5 .u8 (.slice A3 m m) s1.B := by
        have := own_rebase HO3.out (base' := 0) (fun _ _ => Nat.zero_le _)
        unfold OwnN at this ⊢
        rw [hm] at this ⊢
        exact this
      have ho2'' : OwnN w3 0 5 .u8 (.slice A1 m c1) s1.B := by
        have := ho2'
        unfold OwnN at this ⊢
        rw [hm] at this ⊢
        exact this
      have hfr : ∀ j, (Value.slice A3 m m).ownBlock = some j → w2.heap.size ≤ j ∧ j < w3.heap.size := fun j hj => ⟨own_ge HO3.out j (by rw [hm]; exact hj), own_lt HO3' j hj⟩
      have hsw : w3.heap.size ≤ ((w3.setCell ⟨P, 1, none⟩ (.slice A3 m m)).setCell ⟨P, 2, none⟩ (.int .i64 (m : Int))).heap.size := hkf.size
      refine ⟨rfl, dk_of (s' := ⟨s1.B, s1.B, s1.B.length, s1.dead, s1.failed, s1.inn, s1.keep⟩) (armed := armed) (inn := inn) HBk3.out ho2'' HO3' ?_ hkf (by simpa [hm] using hbf) HAr.out ?_ ?_ ?_, ?_⟩
      · intro j hj hj2
        have h1 := own_lt HO2.out j (by rw [hm]; exact hj)
        have h2 := hfr j hj2
        omega
      · intro j hj
        rcases HF2.out j (by rw [hm]; exact hj) with h | ⟨h1, h2⟩
        · exact .inl h
        · exact .inr ⟨h1, by have := HB3.out.size; omega⟩
      · intro j hj
        have := hfr j hj
        exact .inr ⟨by omega, by omega⟩
      · exact .inl hpF.out
      · exact (HK2.out.below HB3.out).then hkf (fun j hj e => e ▸ hpF.out)
end Jrn
end Go.Proofs.Ytihgmlcmdpmhhaa
