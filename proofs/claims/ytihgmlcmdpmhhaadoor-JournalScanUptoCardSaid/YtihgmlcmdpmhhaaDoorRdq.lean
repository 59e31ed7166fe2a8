/- The document's disk: fails, Arm, Crash, Revive, Bytes: walked. -/
import Derived.Test.YtihgmlcmdpmhhaaDoorRdk
namespace Go.Proofs.YtihgmlcmdpmhhaaDoor
set_option linter.unusedVariables false
set_option linter.unusedSimpArgs false
namespace Jrn
open Go.RowKit Mem Apn
/-- What a disk in these statements is: small. -/
structure DS.Sm (s : DS) : Prop where
  least : s.least ≤ s.B.length
  lb : s.B.length ≤ 1000000000
  ld : s.D.length ≤ 1000000000
  failed : s.failed ≤ 1000000000
  inn : s.inn ≤ 9223372036854775807
  keep : -9223372036854775808 ≤ s.keep ∧ s.keep ≤ 9223372036854775807
theorem DS.Sm.good {s : DS} (h : s.Sm) : s.Good := ⟨h.least, by have := h.lb; omega, by have := h.ld; omega, by have := h.failed; omega, h.inn, h.keep⟩
theorem rk_of {w w' : World} {F : Nat → Prop} {Q : Nat} {s s' : DS} {A1 A2 : Option Addr} {c1 c2 : Nat} (h1 : s.B.length ≤ c1) (h2 : s.D.length ≤ c2)
    (h3 : RdN w (fun k => F k ∧ k ≠ Q) .u8 A1 s.B.length s.B) (h4 : RdN w (fun k => F k ∧ k ≠ Q) .u8 A2 s.D.length s.D) (pF : F Q) (hB : s'.B = s.B) (hD : s'.D = s.D)
    (hk : Keep (fun k => k = Q) w w') (hb : Blk w' Q 90 #[.slice A1 s'.B.length c1, .slice A2 s'.D.length c2, .int .i64 s'.least, .bool s'.dead, .int .i64 s'.failed, .int .i64 s'.inn, .int .i64 s'.keep]) : Rk w' F Q s' :=
  ⟨⟨A1, A2, c1, c2, hb, by rw [hB]; exact h1, by rw [hD]; exact h2, by rw [hB]; exact RdV.keep h3 hk (fun j hj e => hj.2 e), by rw [hD]; exact RdV.keep h4 hk (fun j hj e => hj.2 e)⟩, pF⟩
set_option maxHeartbeats 4000000 in
set_option maxRecDepth 100000 in
theorem rfails_any (F : Nat → Prop) (Q : Nat) (s : DS) (w : World) (h : Rk w F Q s) (hs : s.Sm) (hF : ∀ k, F k → k < w.heap.size) :
    Calls Tryd.prog 66 #[.pointer (some ⟨Q, 0, none⟩)] w fun e w' => e = .returned (.bool (doesS s).2) ∧ Rk w' (Nw F w w') Q (doesS s).1 ∧ Keep (fun k => k = Q) w w' := by
  have HD := Held.mk h
  obtain ⟨A1, A2, c1, c2, h1, h2, h3, h4, h5⟩ := h.ex
  have HB := Held.mk h1
  have H2 := Held.mk (And.intro h2 h3)
  have H4 := Held.mk (And.intro h4 h5)
  have HPF := Held.mk h.pF
  have HQl := Held.mk h1.lt
  have p5 := h1.cell 5
  have p6 := h1.cell 6
  have r5 := h1.frozen 5
  have hib := hs.inn
  have HS := Held.mk hs
  clear h h1 h2 h3 h4 h5 hs
  by_cases h0 : s.inn = 0
  · have e1 : doesS s = (s, false) := by unfold doesS; rw [if_pos h0]
    have i0 : decide ((s.inn : Int) = 0) = true := decide_eq_true (by omega)
    go_enter Tryd.func66, Tryd.ntmps66
    go_wp2_with fail
    go_ret
    rw [e1]
    exact ⟨rfl, HD.out.mono (fun j h => .inl h), Keep.refl _ _⟩
  · have i0 : decide ((s.inn : Int) = 0) = false := decide_eq_false (by omega)
    by_cases h2i : 1 < s.inn
    · have e1 : doesS s = (⟨s.B, s.D, s.least, s.dead, s.failed, s.inn - 1, s.keep⟩, false) := by unfold doesS; rw [if_neg h0, if_pos h2i]
      have i1 : decide (0 < (s.inn : Int) - 1) = true := decide_eq_true (by omega)
      have hw : wrap64 ((s.inn : Int) - 1) = (s.inn : Int) - 1 := IntWalk.wrap64_in _ ⟨by omega, by omega⟩
      go_enter Tryd.func66, Tryd.ntmps66
      go_wp2_with fail
      go_ret
      rw [e1]
      have hk := kp (P := Q) (i := 5) (w := w) (.int .i64 ((s.inn : Int) - 1))
      have ei : ((s.inn - 1 : Nat) : Int) = (s.inn : Int) - 1 := by omega
      exact ⟨rfl, (rk_of (s' := ⟨s.B, s.D, s.least, s.dead, s.failed, s.inn - 1, s.keep⟩) H2.out.1 H2.out.2 H4.out.1 H4.out.2 HPF.out rfl rfl hk (by have := HB.out.set_ 5 (.int .i64 ((s.inn : Int) - 1)); simpa [ei] using this)).mono (fun j h => .inl h), hk⟩
    · have e1 : doesS s = (failS ⟨s.B, s.D, s.least, s.dead, s.failed, 0, s.keep⟩ s.keep, true) := by unfold doesS; rw [if_neg h0, if_neg h2i]
      have hone : s.inn = 1 := by omega
      rw [hone] at p5 i0
      clear hib
      have hk := kp (P := Q) (i := 5) (w := w) (.int .i64 0)
      have hb2 := HB.out.set_ 5 (.int .i64 0)
      have hsz : (w.setCell ⟨Q, 5, none⟩ (.int .i64 0)).heap.size = w.heap.size := by simp
      have HR2 := rk_of (s' := ⟨s.B, s.D, s.least, s.dead, s.failed, 0, s.keep⟩) H2.out.1 H2.out.2 H4.out.1 H4.out.2 HPF.out rfl rfl hk (by simpa using hb2)
      have HFl := Held.mk (rfail_any F Q ⟨s.B, s.D, s.least, s.dead, s.failed, 0, s.keep⟩ s.keep (w.setCell ⟨Q, 5, none⟩ (.int .i64 0)) HR2 (by have := HS.out.lb; simp only; omega) (by have := HS.out.ld; simp only; omega) HS.out.least (by have := HS.out.failed; simp only; omega) (fun k hk => by rw [hsz]; exact hF k hk))
      have q6 := hb2.cell 6
      have HK := Held.mk hk
      clear hk hb2 HR2
      go_enter Tryd.func66, Tryd.ntmps66
      go_wp2_with fail
      refine HFl.out.mono ?_
      rintro e w3 ⟨rfl, hD3, hK3⟩
      have HD3 := Held.mk hD3
      have HK3 := Held.mk (HK.out.trans hK3)
      clear hD3 hK3 HFl
      go_wp2_with fail
      go_ret
      rw [e1]
      exact ⟨rfl, HD3.out.mono (fun j h => h.imp id fun h => ⟨by simpa using h.1, h.2⟩), HK3.out⟩
end Jrn
end Go.Proofs.YtihgmlcmdpmhhaaDoor
/- The document's disk: Arm, Crash, Revive, Bytes: walked. -/
namespace Go.Proofs.YtihgmlcmdpmhhaaDoor
set_option linter.unusedVariables false
set_option linter.unusedSimpArgs false
namespace Jrn
open Go.RowKit Mem Apn
set_option maxHeartbeats 2000000 in
set_option maxRecDepth 100000 in
theorem rrevive_any (F : Nat → Prop) (Q : Nat) (s : DS) (w : World) (h : Rk w F Q s) :
    Calls Tryd.prog 42 #[.pointer (some ⟨Q, 0, none⟩)] w fun e w' => e = .returned (.tuple #[]) ∧ Rk w' F Q (reviveS s) ∧ Keep (fun k => k = Q) w w' := by
  have HD := Held.mk h
  obtain ⟨A1, A2, c1, c2, h1, h2, h3, h4, h5⟩ := h.ex
  have z3 := h1.cell 3
  have z5 := h1.cell 5
  have f3 := h1.frozen 3
  have f5 := h1.frozen 5
  have H1 := Held.mk h1
  have H2 := Held.mk (And.intro h2 (And.intro h3 (And.intro h4 h5)))
  clear h h1 h2 h3 h4 h5
  go_enter Tryd.func42, Tryd.ntmps42
  go_wp2_with fail
  go_end0
  have hk := (kp (P := Q) (i := 3) (w := w) (.bool false)).trans (kp (P := Q) (i := 5) (.int .i64 0))
  exact ⟨rfl, rk_of (s' := reviveS s) H2.out.1 H2.out.2.1 H2.out.2.2.1 H2.out.2.2.2 HD.out.pF rfl rfl hk (by have := (H1.out.set_ 3 (.bool false)).set_ 5 (.int .i64 0); simpa [reviveS] using this), hk⟩
set_option maxHeartbeats 2000000 in
set_option maxRecDepth 100000 in
theorem rcrash_any (F : Nat → Prop) (Q : Nat) (s : DS) (k : Int) (w : World) (h : Rk w F Q s) (hs : s.Sm) (hF : ∀ k, F k → k < w.heap.size) :
    Calls Tryd.prog 41 #[.pointer (some ⟨Q, 0, none⟩), .agg #[.int .i64 k]] w fun e w' => e = .returned (.tuple #[]) ∧ Rk w' (Nw F w w') Q (crashS s k) ∧ Keep (fun k => k = Q) w w' := by
  have HD := Held.mk h
  obtain ⟨A1, A2, c1, c2, h1, _⟩ := h.ex
  have hk : Keep (fun _ => False) w (w.alloc (.cells #[.int .i64 k] 71)) := (Keep.refl _ w).alloc _
  have HKa := Held.mk hk
  have p3 := hk.cell (h1.cell 3) (fun h => h)
  have e0 : (w.alloc (.cells #[.int .i64 k] 71)).cell? ⟨w.heap.size, 0, none⟩ = some (.int .i64 k) := (Blk.new w 71 #[.int .i64 k]).cell 0
  have HFl := Held.mk (rfail_any F Q s k (w.alloc (.cells #[.int .i64 k] 71)) (h.keep_ hk (fun _ _ h => h)) (by have := hs.lb; omega) (by have := hs.ld; omega) hs.least (by have := hs.failed; omega) (fun k hk' => Nat.lt_of_lt_of_le (hF k hk') hk.size))
  clear h h1 hk
  cases hd : s.dead with
  | true =>
    rw [hd] at p3
    have e9 : crashS s k = s := by unfold crashS; rw [if_pos hd]
    go_enter Tryd.func41, Tryd.ntmps41
    go_wp2_with fail
    go_end0
    rw [e9]
    exact ⟨rfl, (HD.out.keep_ HKa.out (fun _ _ h => h)).mono (fun j h => .inl h), HKa.out.mono (fun _ _ h => h.elim)⟩
  | false =>
    rw [hd] at p3
    have e9 : crashS s k = failS s k := by unfold crashS; rw [if_neg (by simp [hd])]
    go_enter Tryd.func41, Tryd.ntmps41
    go_wp2_with fail
    refine HFl.out.mono ?_
    rintro e w2 ⟨rfl, hD2, hK2⟩
    have H2 := Held.mk (And.intro hD2 hK2)
    clear hD2 hK2
    go_wp2_with fail
    go_end0
    rw [e9]
    exact ⟨rfl, H2.out.1.mono (fun j h => h.imp id fun h => ⟨Nat.le_trans HKa.out.size h.1, h.2⟩), (HKa.out.mono (fun _ _ h => h.elim)).trans H2.out.2⟩
set_option maxHeartbeats 2000000 in
set_option maxRecDepth 100000 in
theorem rarm_any (F : Nat → Prop) (Q : Nat) (s : DS) (n k : Int) (w : World) (h : Rk w F Q s) :
    Calls Tryd.prog 40 #[.pointer (some ⟨Q, 0, none⟩), .int .i64 n, .agg #[.int .i64 k]] w fun e w' => e = .returned (.tuple #[]) ∧ Rk w' F Q (armS s n k) ∧ Keep (fun k => k = Q) w w' := by
  have HD := Held.mk h
  obtain ⟨A1, A2, c1, c2, h1, h2, h3, h4, h5⟩ := h.ex
  have hka : Keep (fun _ => False) w (w.alloc (.cells #[.int .i64 k] 71)) := (Keep.refl _ w).alloc _
  have HKa := Held.mk hka
  have h1x := h1.keep hka (fun h => h)
  have z3 := h1x.cell 3
  have z5 := h1x.cell 5
  have z6 := h1x.cell 6
  have f5 := h1x.frozen 5
  have f6 := h1x.frozen 6
  have H1 := Held.mk h1x
  have H2 := Held.mk (And.intro h2 (And.intro h3 (And.intro h4 h5)))
  have HLt := Held.mk h1.lt
  have e0 : (w.alloc (.cells #[.int .i64 k] 71)).cell? ⟨w.heap.size, 0, none⟩ = some (.int .i64 k) := (Blk.new w 71 #[.int .i64 k]).cell 0
  have hne : w.heap.size ≠ Q := by have := h1.lt; omega
  have e1 := fun v : Value => (kp (P := Q) (i := 5) (w := w.alloc (.cells #[.int .i64 k] 71)) v).cell e0 hne
  clear h h1 h2 h3 h4 h5 hka h1x
  cases hd : s.dead with
  | true =>
    rw [hd] at z3
    go_enter Tryd.func40, Tryd.ntmps40
    go_wp2_with fail
    (try simp only [Exit.inBlock, Exit.then])
    refine bodyPost_ret (results_none rfl _ _ _) rfl ?_
    refine ⟨rfl, ?_, HKa.out.mono (fun _ _ h => h.elim)⟩
    unfold armS
    rw [if_pos hd]
    exact HD.out.keep_ HKa.out (fun _ _ h => h)
  | false =>
    rw [hd] at z3
    obtain ⟨m, hm⟩ : ∃ m : Nat, (max n 1).toNat = m := ⟨_, rfl⟩
    have e9 : Held (armS s n k = ⟨s.B, s.D, s.least, s.dead, s.failed, m, k⟩) := ⟨by unfold armS; rw [if_neg (by simp [hd]), hm]⟩
    by_cases hn : n < 1
    · have i1 : decide (n < 1) = true := decide_eq_true hn
      have hm1 : m = 1 := by omega
      go_enter Tryd.func40, Tryd.ntmps40
      go_wp2_with fail
      go_end0
      have hk := ((HKa.out.mono (T := fun k => k = Q) (fun _ _ h => h.elim)).trans (kp (P := Q) (i := 5) (.int .i64 1))).trans (kp (P := Q) (i := 6) (.int .i64 k))
      have hb := (H1.out.set_ 5 (.int .i64 1)).set_ 6 (.int .i64 k)
      rw [e9.out, hm1]
      exact ⟨rfl, rk_of (s' := ⟨s.B, s.D, s.least, s.dead, s.failed, 1, k⟩) H2.out.1 H2.out.2.1 H2.out.2.2.1 H2.out.2.2.2 HD.out.pF rfl rfl hk (by simpa [hd] using hb), hk⟩
    · have i1 : decide (n < 1) = false := decide_eq_false hn
      have hm1 : (m : Int) = n := by omega
      go_enter Tryd.func40, Tryd.ntmps40
      go_wp2_with fail
      go_end0
      have hk := ((HKa.out.mono (T := fun k => k = Q) (fun _ _ h => h.elim)).trans (kp (P := Q) (i := 5) (.int .i64 n))).trans (kp (P := Q) (i := 6) (.int .i64 k))
      have hb := (H1.out.set_ 5 (.int .i64 n)).set_ 6 (.int .i64 k)
      rw [e9.out]
      exact ⟨rfl, rk_of (s' := ⟨s.B, s.D, s.least, s.dead, s.failed, m, k⟩) H2.out.1 H2.out.2.1 H2.out.2.2.1 H2.out.2.2.2 HD.out.pF rfl rfl hk (by simpa [hd, hm1] using hb), hk⟩
/-- Bytes: the bytes themselves, or the number. -/
def bytesV (s : DS) (A : Option Addr) (c : Nat) : Value := if s.dead then .tuple #[.slice none 0 0, .int .i64 23] else .tuple #[.slice A s.B.length c, .int .i64 0]
set_option maxHeartbeats 2000000 in
set_option maxRecDepth 100000 in
theorem rbytes_any (F : Nat → Prop) (Q : Nat) (s : DS) (w : World) (h : Rk w F Q s) :
    Calls Tryd.prog 44 #[.pointer (some ⟨Q, 0, none⟩)] w fun e w' => w' = w ∧ ∃ A c, e = .returned (bytesV s A c) ∧ s.B.length ≤ c ∧ RdN w (fun k => F k ∧ k ≠ Q) .u8 A s.B.length s.B := by
  obtain ⟨A1, A2, c1, c2, h1, h2, h3, h4, h5⟩ := h.ex
  have z0 := h1.cell 0
  have z3 := h1.cell 3
  have H2 := Held.mk (And.intro h2 h4)
  clear h h1 h2 h3 h4 h5
  cases hd : s.dead with
  | true =>
    rw [hd] at z3
    have e9 : bytesV s A1 c1 = .tuple #[.slice none 0 0, .int .i64 23] := by unfold bytesV; rw [if_pos hd]
    go_enter Tryd.func44, Tryd.ntmps44
    go_wp2_with fail
    go_ret2
    exact ⟨rfl, A1, c1, by rw [e9]; rfl, H2.out⟩
  | false =>
    rw [hd] at z3
    have e9 : bytesV s A1 c1 = .tuple #[.slice A1 s.B.length c1, .int .i64 0] := by unfold bytesV; rw [if_neg (by simp [hd])]
    go_enter Tryd.func44, Tryd.ntmps44
    go_wp2_with fail
    go_ret2
    exact ⟨rfl, A1, c1, by rw [e9]; rfl, H2.out⟩
end Jrn
end Go.Proofs.YtihgmlcmdpmhhaaDoor
/- The document's disk: Sync: walked. -/
namespace Go.Proofs.YtihgmlcmdpmhhaaDoor
set_option linter.unusedVariables false
set_option linter.unusedSimpArgs false
namespace Jrn
open Go.RowKit Mem Apn
def rsyncS (s : DS) : DS × Int :=
  if s.dead then (s, 23)
  else match doesS s with
    | (s1, true) => (s1, 23)
    | (s1, false) => (⟨s1.B, s1.B, s1.B.length, s1.dead, s1.failed, s1.inn, s1.keep⟩, 0)
set_option maxHeartbeats 4000000 in
set_option maxRecDepth 100000 in
theorem rsync_any (F : Nat → Prop) (Q : Nat) (s : DS) (w : World) (h : Rk w F Q s) (hs : s.Sm) (hF : ∀ k, F k → k < w.heap.size) :
    Calls Tryd.prog 38 #[.pointer (some ⟨Q, 0, none⟩)] w fun e w' => e = .returned (.int .i64 (rsyncS s).2) ∧ Rk w' (Nw F w w') Q (rsyncS s).1 ∧ Keep (fun k => k = Q) w w' := by
  have HD := Held.mk h
  obtain ⟨A1, A2, c1, c2, h1, _⟩ := h.ex
  have p3 := h1.cell 3
  have HFs := Held.mk (rfails_any F Q s w h hs hF)
  have hlb := doesS_lb s hs.good
  have hl0 := hs.lb
  have hpF := Held.mk h.pF
  have hPl := Held.mk h.lt
  clear h h1
  cases hd : s.dead with
  | true =>
    rw [hd] at p3
    have e9 : rsyncS s = (s, 23) := by unfold rsyncS; rw [if_pos hd]
    go_enter Tryd.func38, Tryd.ntmps38
    go_wp2_with fail
    go_ret
    rw [e9]
    exact ⟨rfl, HD.out.mono (fun j h => .inl h), Keep.refl _ _⟩
  | false =>
    rw [hd] at p3
    obtain ⟨s1, bf, hds⟩ : ∃ s1 bf, doesS s = (s1, bf) := ⟨_, _, rfl⟩
    rw [hds] at HFs hlb
    simp only at HFs hlb
    cases bf with
    | true =>
      have e9 : Held (rsyncS s = (s1, 23)) := ⟨by unfold rsyncS; rw [if_neg (by simp [hd]), hds]⟩
      clear hlb hds
      go_enter Tryd.func38, Tryd.ntmps38
      go_wp2_with fail
      refine HFs.out.mono ?_
      rintro e w2 ⟨rfl, hD2, hK2⟩
      have H2 := Held.mk (And.intro hD2 hK2)
      clear hD2 hK2
      go_wp2_with fail
      go_ret
      rw [e9.out]
      exact ⟨rfl, H2.out⟩
    | false =>
      have e9 : Held (rsyncS s = (⟨s1.B, s1.B, s1.B.length, s1.dead, s1.failed, s1.inn, s1.keep⟩, 0)) := ⟨by unfold rsyncS; rw [if_neg (by simp [hd]), hds]⟩
      have hB1 := hlb rfl
      clear hlb hds
      go_enter Tryd.func38, Tryd.ntmps38
      go_wp2_with fail
      refine HFs.out.mono ?_
      rintro e w2 ⟨rfl, hD2, hK2⟩
      obtain ⟨A1, A2, c1, c2, h1, h2, h3, h4, h5⟩ := hD2.ex
      obtain ⟨m, hm⟩ : ∃ m, s1.B.length = m := ⟨_, rfl⟩
      rw [hm] at h1 h2 h4
      have hml : m ≤ 1000000000 := by rw [← hm, hB1]; exact hl0
      have p0 := h1.cell 0
      have HB := Held.mk h1
      have H2 := Held.mk (And.intro h2 h4)
      have HP2 := Held.mk hD2.pF
      have HK2 := Held.mk hK2
      have HC := Held.mk (copy_ _ A1 m c1 s1.B w2 h4 (by omega))
      have hq2 : Q < w2.heap.size := h1.lt
      clear hD2 hK2 h1 h2 h3 h4 h5
      go_wp2_with fail
      refine HC.out.mono ?_
      rintro e w3 ⟨A3, c3, rfl, hc3, hr3, hb3⟩
      have HK3 := Held.mk (Keep.of_below hb3 (fun _ => False))
      have hB3 := HB.out.keep HK3.out (fun h => h)
      have HB3 := Held.mk hB3
      have p1 := hB3.cell 1
      have p2 := hB3.cell 2
      have p0' := hB3.cell 0
      have f1 := hB3.frozen 1
      have f2 := hB3.frozen 2
      have HR3 := Held.mk hr3
      have hb3s := hb3.size
      have hn0 : (⟨Q, 0, none⟩ : Addr) ≠ ⟨Q, 1, none⟩ := by simp
      clear hr3 hb3 hB3 HC
      go_wp2_with fail
      go_ret
      have hkf := (kp (P := Q) (i := 1) (w := w3) (.slice A3 m c3)).trans (kp (P := Q) (i := 2) (.int .i64 (m : Int)))
      have hbf := (HB3.out.set_ 1 (.slice A3 m c3)).set_ 2 (.int .i64 (m : Int))
      have hsf := hkf.size
      have hk2s := HK2.out.size
      rw [e9.out]
      refine ⟨rfl, ⟨⟨A1, A3, c1, c3, ?_, ?_, ?_, ?_, ?_⟩, ?_⟩, ?_⟩
      · simpa [hm] using hbf
      · simp only [hm]; exact H2.out.1
      · simp only [hm]; exact hc3
      · simp only [hm]
        exact ((RdV.keep (RdV.keep H2.out.2 HK3.out (fun _ _ h => h)) hkf (fun j hj e => hj.2 e))).mono (fun j hj => ⟨hj.1.imp id fun h => ⟨h.1, by omega⟩, hj.2⟩)
      · simp only [hm]
        exact (RdV.keep HR3.out hkf (fun j hj e => by omega)).mono (fun j hj => ⟨.inr ⟨by omega, by omega⟩, by omega⟩)
      · exact HP2.out.imp id fun h => ⟨h.1, by omega⟩
      · exact (HK2.out.trans (HK3.out.mono (fun _ _ h => h.elim))).trans hkf
end Jrn
end Go.Proofs.YtihgmlcmdpmhhaaDoor
/- The document's disk: Write: walked. -/
namespace Go.Proofs.YtihgmlcmdpmhhaaDoor
set_option linter.unusedVariables false
set_option linter.unusedSimpArgs false
namespace Jrn
open Go.RowKit Mem Apn
def errN : Bool → Int
  | true => 23
  | false => 0
/-- The document's Write: what the disk is, which number. -/
def rwriteS (s : DS) (b : List Int) : DS × Int :=
  if s.dead then (s, 23)
  else if 67108864 < s.B.length + b.length then (s, 5)
  else ((doesS (addS s b)).1, errN (doesS (addS s b)).2)
theorem smAdd {s : DS} {b : List Int} (h : s.Sm) (hn : s.B.length + b.length ≤ 67108864) : (addS s b).Sm :=
  ⟨by simp [addS]; have := h.least; omega, by simp [addS]; omega, h.ld, h.failed, h.inn, h.keep⟩
set_option maxHeartbeats 4000000 in
set_option maxRecDepth 100000 in
theorem rwrite_any (F : Nat → Prop) (Q : Nat) (s : DS) (ok : Nat → Prop) (A : Option Addr) (n c : Nat) (b : List Int) (w : World) (h : Rk w F Q s) (hs : s.Sm) (hr : RdN w ok .u8 A n b) (hF : ∀ k, F k → k < w.heap.size) (hn : n ≤ 1000000000) :
    Calls Tryd.prog 34 #[.pointer (some ⟨Q, 0, none⟩), .slice A n c] w fun e w' => e = .returned (.int .i64 (rwriteS s b).2) ∧ Rk w' (Nw F w w') Q (rwriteS s b).1 ∧ Keep (fun k => k = Q) w w' := by
  have HD := Held.mk h
  have hbl := hr.len
  obtain ⟨A1, A2, c1, c2, h1, h2, h3, h4, h5⟩ := h.ex
  obtain ⟨m, hm⟩ : ∃ m, s.B.length = m := ⟨_, rfl⟩
  have hlb := hs.lb
  rw [hm] at h1 h2 h4 hlb
  have p0 := h1.cell 0
  have p3 := h1.cell 3
  have HB := Held.mk h1
  have H2 := Held.mk (And.intro h2 h4)
  have H3 := Held.mk (And.intro h3 h5)
  have HPF := Held.mk h.pF
  have HQl := Held.mk h1.lt
  have HR := Held.mk hr
  have HS := Held.mk hs
  have HC := Held.mk (Wire.copy_any _ A1 m c1 s.B w h4 (by omega))
  clear h h1 h2 h3 h4 h5 hr hs
  cases hd : s.dead with
  | true =>
    rw [hd] at p3
    have e9 : Held (rwriteS s b = (s, 23)) := ⟨by unfold rwriteS; rw [if_pos hd]⟩
    go_enter Tryd.func34, Tryd.ntmps34
    go_wp2_with fail
    go_ret
    rw [e9.out]
    exact ⟨rfl, HD.out.mono (fun j h => .inl h), Keep.refl _ _⟩
  | false =>
    rw [hd] at p3
    have hw : wrap64 ((m : Int) + (n : Int)) = (m : Int) + (n : Int) := IntWalk.wrap64_in _ ⟨by omega, by omega⟩
    by_cases hf : 67108864 < m + n
    · have i1 : decide (67108864 < (m : Int) + (n : Int)) = true := decide_eq_true (by omega)
      have e9 : Held (rwriteS s b = (s, 5)) := ⟨by unfold rwriteS; rw [if_neg (by simp [hd]), if_pos (by omega)]⟩
      go_enter Tryd.func34, Tryd.ntmps34
      go_wp2_with fail
      go_ret
      rw [e9.out]
      exact ⟨rfl, HD.out.mono (fun j h => .inl h), Keep.refl _ _⟩
    · have i1 : decide (67108864 < (m : Int) + (n : Int)) = false := decide_eq_false (by omega)
      have hnm : s.B.length + b.length ≤ 67108864 := by omega
      obtain ⟨s1, bf, hds⟩ : ∃ s1 bf, doesS (addS s b) = (s1, bf) := ⟨_, _, rfl⟩
      have e9 : Held (rwriteS s b = (s1, errN bf)) := ⟨by unfold rwriteS; rw [if_neg (by simp [hd]), if_neg (by omega), hds]⟩
      have hCap : Held (((s.B.length + n) + (s.B.length + n) / 4 + 192) * 1 ≤ 281474976710656) := ⟨by omega⟩
      go_enter Tryd.func34, Tryd.ntmps34
      go_wp2_with fail
      refine HC.out.mono ?_
      rintro e w2 ⟨v2, rfl, ho2, hb2⟩
      have HO2 := Held.mk ho2
      have HB2 := Held.mk hb2
      have hR2 := Held.mk (RdV.keep HR.out (Keep.of_below hb2 (fun _ => False)) (fun _ _ h => h))
      have hs2 : Held (w.heap.size ≤ w2.heap.size) := ⟨hb2.size⟩
      have hB2 := HB.out.keep (Keep.of_below hb2 (fun _ => False)) (fun h => h)
      have HBw2 := Held.mk hB2
      have nQ : Held (v2.ownBlock ≠ some Q) := ⟨fun e => by have := own_ge ho2 Q e; have := HQl.out; omega⟩
      clear ho2 hb2 HC hB2
      have HWs : ∀ w3 A3 c3, Keep (fun j => v2.ownBlock = some j) w2 w3 → RdN w3 (fun k => w.heap.size ≤ k ∧ k < w3.heap.size) .u8 A3 (s.B.length + n) (s.B ++ b) → s.B.length + n ≤ c3 → Held (Keep (fun k => k = Q) w (w3.setCell ⟨Q, 0, none⟩ (.slice A3 (s.B.length + n) c3)) ∧ Rk (w3.setCell ⟨Q, 0, none⟩ (.slice A3 (s.B.length + n) c3)) (Nw F w w3) Q (addS s b)) := fun w3 A3 c3 hg hr3 hc3 => ⟨by
        have k0 : Keep (fun _ => False) w w2 := Keep.of_below HB2.out (fun _ => False)
        have k1 : Keep (fun k => k = Q) w w3 := ⟨hg.os.trans k0.os, hg.tape.trans k0.tape, hg.output.trans k0.output, Nat.le_trans k0.size hg.size, fun j hj hq => by
          rw [hg.block j (Nat.lt_of_lt_of_le hj k0.size) (fun e => by have := own_ge HO2.out j e; omega)]
          exact k0.block j hj (fun h => h)⟩
        have hb3 := HBw2.out.keep hg (fun e => nQ.out e)
        have hk := kp (P := Q) (i := 0) (w := w3) (.slice A3 (s.B.length + n) c3)
        have hsz : (w3.setCell ⟨Q, 0, none⟩ (.slice A3 (s.B.length + n) c3)).heap.size = w3.heap.size := by simp
        have hkk := k1.trans hk
        have el : (s.B ++ b).length = s.B.length + n := by rw [List.length_append, hbl]
        refine ⟨hkk, ⟨⟨A3, A2, c3, c2, ?_, ?_, ?_, ?_, ?_⟩, .inl HPF.out⟩⟩
        · have := hb3.set_ 0 (.slice A3 (s.B.length + n) c3)
          simpa [addS, el] using this
        · simp only [addS]; rw [el]; exact hc3
        · exact H3.out.1
        · simp only [addS]; rw [el]
          exact (RdV.keep hr3 hk (fun j hj e => by have := HQl.out; omega)).mono (fun j hj => ⟨.inr hj, by have := HQl.out; omega⟩)
        · exact (RdV.keep H3.out.2 hkk (fun j hj e => hj.2 e)).mono (fun j hj => ⟨.inl hj.1, hj.2⟩)⟩
      go_wp2_with ((at_builtin; go_loud (refine appN w.heap.size rfl (.tmp 23) (.tmp 24) 22 5 .u8 1 rfl Tryd.underlying22 Wire.info_u8 (by decide) _ s.B rfl HO2.out ok A n c b rfl hR2.out hCap.out hs2.out ?_)); (intro v3 w3 ho3 hg3 hat3); (obtain ⟨A3, c3, rfl, hc3, hr3⟩ := cp_rd ho3); (rw [List.length_append, hbl] at hc3 hr3 ⊢); (have HG3 := HWs w3 A3 c3 (Keep.of_grown hg3) hr3 hc3); (have q0 := (HBw2.out.keep (Keep.of_grown hg3) (fun e => nQ.out e)).cell 0); (have g0 := (HBw2.out.keep (Keep.of_grown hg3) (fun e => nQ.out e)).frozen 0); (clear ho3 hg3 hat3 hr3))
      rw [hm] at HG3
      have hF3 : ∀ k, Nw F w w3 k → k < (w3.setCell ⟨Q, 0, none⟩ (.slice A3 (m + n) c3)).heap.size := fun k hk => by
        have h9 := HG3.out.1.size
        rcases hk with h | h
        · exact Nat.lt_of_lt_of_le (hF k h) h9
        · have h8 : (w3.setCell ⟨Q, 0, none⟩ (.slice A3 (m + n) c3)).heap.size = w3.heap.size := by simp
          rw [h8]; exact h.2
      have HFs := rfails_any (Nw F w w3) Q (addS s b) _ HG3.out.2 (smAdd HS.out hnm) hF3
      rw [hds] at HFs
      simp only at HFs
      have hwz : w.heap.size ≤ w3.heap.size := by
        have h9 := HG3.out.1.size
        have h8 : (w3.setCell ⟨Q, 0, none⟩ (.slice A3 (m + n) c3)).heap.size = w3.heap.size := by simp
        omega
      clear q0 g0 hF3
      refine HFs.mono ?_
      rintro e w4 ⟨rfl, hD4, hK4⟩
      have H4 : Held (Rk w4 (Nw F w w4) Q s1 ∧ Keep (fun k => k = Q) w w4) := ⟨by
        have h8 : (w3.setCell ⟨Q, 0, none⟩ (.slice A3 (m + n) c3)).heap.size = w3.heap.size := by simp
        have h9 := hK4.size
        exact hD4.mono (fun j h => Nw.trans (w1 := w3) hwz (by omega) j (h.imp id fun h => ⟨by omega, h.2⟩)), HG3.out.1.trans hK4⟩
      clear hD4 hK4 HFs HG3 HWs
      cases bf with
      | true =>
        go_wp2_with fail
        go_ret
        rw [e9.out]
        exact ⟨rfl, H4.out⟩
      | false =>
        go_wp2_with fail
        go_ret
        rw [e9.out]
        exact ⟨rfl, H4.out⟩
end Jrn
end Go.Proofs.YtihgmlcmdpmhhaaDoor
/- The document's disk: Cut: walked. -/
namespace Go.Proofs.YtihgmlcmdpmhhaaDoor
set_option linter.unusedVariables false
set_option linter.unusedSimpArgs false
namespace Jrn
open Go.RowKit Mem Apn
/-- The document's Cut: what the disk is, which number. -/
def rcutS (s : DS) (n : Int) : DS × Int :=
  if s.dead then (s, 23)
  else if n < 0 ∨ (s.B.length : Int) < n then (s, 1)
  else ((doesS (cutS s n.toNat)).1, errN (doesS (cutS s n.toNat)).2)
theorem smCut {s : DS} {n : Nat} (h : s.Sm) (hn : n ≤ s.B.length) : (cutS s n).Sm :=
  ⟨by simp [cutS]; omega, by simp [cutS]; have := h.lb; omega, h.ld, h.failed, h.inn, h.keep⟩
theorem rd_front {ok : Nat → Prop} {w : World} {A : Option Addr} {n m : Nat} {xs : List Int} (h : RdN w ok .u8 A n xs) (hm : m ≤ n) : RdN w ok .u8 A m (xs.take m) := by
  have h1 := RdV.front h (k := m) hm
  rw [Nat.mul_one] at h1
  unfold RdN
  rw [show nums .u8 (xs.take m) = (nums .u8 xs).take m by simp [nums, List.map_take]]
  exact h1
set_option maxHeartbeats 4000000 in
set_option maxRecDepth 100000 in
theorem rcut_any (F : Nat → Prop) (Q : Nat) (s : DS) (n : Int) (w : World) (h : Rk w F Q s) (hs : s.Sm) (hF : ∀ k, F k → k < w.heap.size) :
    Calls Tryd.prog 36 #[.pointer (some ⟨Q, 0, none⟩), .int .i64 n] w fun e w' => e = .returned (.int .i64 (rcutS s n).2) ∧ Rk w' (Nw F w w') Q (rcutS s n).1 ∧ Keep (fun k => k = Q) w w' := by
  have HD := Held.mk h
  obtain ⟨A1, A2, c1, c2, h1, h2, h3, h4, h5⟩ := h.ex
  obtain ⟨m, hm⟩ : ∃ m, s.B.length = m := ⟨_, rfl⟩
  have hlb := hs.lb
  rw [hm] at h1 h2 h4 hlb
  have p0 := h1.cell 0
  have p3 := h1.cell 3
  have HB := Held.mk h1
  have H2 := Held.mk (And.intro h2 h4)
  have H3 := Held.mk (And.intro h3 h5)
  have HPF := Held.mk h.pF
  have HQl := Held.mk h1.lt
  have HS := Held.mk hs
  clear h h1 h3 h4 h5 hs
  cases hd : s.dead with
  | true =>
    rw [hd] at p3
    have e9 : Held (rcutS s n = (s, 23)) := ⟨by unfold rcutS; rw [if_pos hd]⟩
    go_enter Tryd.func36, Tryd.ntmps36
    go_wp2_with fail
    go_ret
    rw [e9.out]
    exact ⟨rfl, HD.out.mono (fun j h => .inl h), Keep.refl _ _⟩
  | false =>
    rw [hd] at p3
    by_cases hn : n < 0
    · have i1 : decide (n < 0) = true := decide_eq_true hn
      have e9 : Held (rcutS s n = (s, 1)) := ⟨by unfold rcutS; rw [if_neg (by simp [hd]), if_pos (.inl hn)]⟩
      go_enter Tryd.func36, Tryd.ntmps36
      go_wp2_with fail
      go_ret
      rw [e9.out]
      exact ⟨rfl, HD.out.mono (fun j h => .inl h), Keep.refl _ _⟩
    · have i1 : decide (n < 0) = false := decide_eq_false hn
      obtain ⟨k, rfl⟩ : ∃ k : Nat, n = (k : Int) := ⟨n.toNat, by omega⟩
      by_cases hf : m < k
      · have i2 : decide ((m : Int) < (k : Int)) = true := decide_eq_true (by omega)
        have e9 : Held (rcutS s (k : Int) = (s, 1)) := ⟨by unfold rcutS; rw [if_neg (by simp [hd]), if_pos (.inr (by omega))]⟩
        go_enter Tryd.func36, Tryd.ntmps36
        go_wp2_with fail
        go_ret
        rw [e9.out]
        exact ⟨rfl, HD.out.mono (fun j h => .inl h), Keep.refl _ _⟩
      · have i2 : decide ((m : Int) < (k : Int)) = false := decide_eq_false (by omega)
        have hkm : k ≤ m := by omega
        obtain ⟨s1, bf, hds⟩ : ∃ s1 bf, doesS (cutS s k) = (s1, bf) := ⟨_, _, rfl⟩
        have e9 : Held (rcutS s (k : Int) = (s1, errN bf)) := ⟨by unfold rcutS; rw [if_neg (by simp [hd]), if_neg (by omega)]; simp only [Int.toNat_natCast, hds]⟩
        have hmI : 0 ≤ (k : Int) ∧ (k : Int) ≤ (c1 : Int) := ⟨by omega, by omega⟩
        have HC := Held.mk (copy_ _ A1 k c1 (s.B.take k) w (rd_front H2.out.2 hkm) (by omega))
        go_enter Tryd.func36, Tryd.ntmps36
        go_wp2_with fail
        refine HC.out.mono ?_
        rintro e w3 ⟨A3, c3, rfl, hc3, hr3, hb3⟩
        have HK3 := Held.mk (Keep.of_below hb3 (fun _ => False))
        have hB3 := HB.out.keep HK3.out (fun h => h)
        have q0 := hB3.cell 0
        have g0 := hB3.frozen 0
        have q2 := (hB3.set_ 0 (.slice A3 k c3)).cell 2
        have g2 := (hB3.set_ 0 (.slice A3 k c3)).frozen 2
        have HB3 := Held.mk hB3
        have HR3 := Held.mk hr3
        have hw3 : Held (w.heap.size ≤ w3.heap.size) := ⟨hb3.size⟩
        have el : (s.B.take k).length = k := by rw [List.length_take]; omega
        have HWs : ∀ w4, Keep (fun k => k = Q) (w3.setCell ⟨Q, 0, none⟩ (.slice A3 k c3)) w4 → Blk w4 Q 90 #[.slice A3 k c3, .slice A2 s.D.length c2, .int .i64 ((min s.least k : Nat) : Int), .bool s.dead, .int .i64 s.failed, .int .i64 s.inn, .int .i64 s.keep] →
            Held (Keep (fun k => k = Q) w w4 ∧ Rk w4 (Nw F w w4) Q (cutS s k)) := fun w4 hk4 hb4 => ⟨by
          have hk := kp (P := Q) (i := 0) (w := w3) (.slice A3 k c3)
          have hsz : (w3.setCell ⟨Q, 0, none⟩ (.slice A3 k c3)).heap.size = w3.heap.size := by simp
          have hs4 := hk4.size
          have hkk := (HK3.out.mono (T := fun k => k = Q) (fun _ _ h => h.elim)).trans (hk.trans hk4)
          refine ⟨hkk, ⟨⟨A3, A2, c3, c2, ?_, ?_, ?_, ?_, ?_⟩, .inl HPF.out⟩⟩
          · simpa [cutS, el, Nat.min_comm] using hb4
          · simp only [cutS]; rw [el]; exact hc3
          · exact H3.out.1
          · simp only [cutS]; rw [el]
            have := hw3.out
            have hQ := HQl.out
            exact (RdV.keep (RdV.keep HR3.out hk (fun j hj e => by omega)) hk4 (fun j hj e => by omega)).mono (fun j hj => ⟨.inr ⟨by omega, by omega⟩, by omega⟩)
          · exact (RdV.keep H3.out.2 hkk (fun j hj e => hj.2 e)).mono (fun j hj => ⟨.inl hj.1, hj.2⟩)⟩
        clear hr3 hb3 hB3 HC
        have tailH : ∀ w4 : World, Keep (fun k => k = Q) w w4 ∧ Rk w4 (Nw F w w4) Q (cutS s k) → Held (Calls Tryd.prog 66 #[.pointer (some ⟨Q, 0, none⟩)] w4 fun e w' => e = .returned (.bool bf) ∧ Rk w' (Nw F w w') Q s1 ∧ Keep (fun k => k = Q) w w') := fun w4 h4 => ⟨by
          have h9 := h4.1.size
          have HFs := rfails_any (Nw F w w4) Q (cutS s k) w4 h4.2 (smCut HS.out (by omega)) (fun k hk => hk.elim (fun h => Nat.lt_of_lt_of_le (hF k h) h9) (fun h => h.2))
          rw [hds] at HFs
          exact HFs.mono (fun e w' hh => ⟨hh.1, hh.2.1.mono (fun j h => Nw.trans (w1 := w4) h9 hh.2.2.size j h), h4.1.trans hh.2.2⟩)⟩
        by_cases hl : k < s.least
        · have i3 : decide ((k : Int) < (s.least : Int)) = true := decide_eq_true (by omega)
          have T := tailH ((w3.setCell ⟨Q, 0, none⟩ (.slice A3 k c3)).setCell ⟨Q, 2, none⟩ (.int .i64 (k : Int))) (HWs _ (kp _) (by
            have := (HB3.out.set_ 0 (.slice A3 k c3)).set_ 2 (.int .i64 (k : Int))
            rw [Nat.min_eq_right (by omega)]
            simpa using this)).out
          clear tailH HWs
          go_wp2_with fail
          refine T.out.mono ?_
          rintro e w5 ⟨rfl, hD5, hK5⟩
          have H5 := Held.mk (And.intro hD5 hK5)
          clear hD5 hK5 T
          cases bf with
          | true =>
            go_wp2_with fail
            go_ret
            rw [e9.out]
            exact ⟨rfl, H5.out⟩
          | false =>
            go_wp2_with fail
            go_ret
            rw [e9.out]
            exact ⟨rfl, H5.out⟩
        · have i3 : decide ((k : Int) < (s.least : Int)) = false := decide_eq_false (by omega)
          have T := tailH (w3.setCell ⟨Q, 0, none⟩ (.slice A3 k c3)) (HWs _ (Keep.refl _ _) (by
            have := (HB3.out.set_ 0 (.slice A3 k c3))
            rw [Nat.min_eq_left (by omega)]
            simpa using this)).out
          clear tailH HWs
          go_wp2_with fail
          refine T.out.mono ?_
          rintro e w5 ⟨rfl, hD5, hK5⟩
          have H5 := Held.mk (And.intro hD5 hK5)
          clear hD5 hK5 T
          cases bf with
          | true =>
            go_wp2_with fail
            go_ret
            rw [e9.out]
            exact ⟨rfl, H5.out⟩
          | false =>
            go_wp2_with fail
            go_ret
            rw [e9.out]
            exact ⟨rfl, H5.out⟩
end Jrn
end Go.Proofs.YtihgmlcmdpmhhaaDoor
/- A new disk, the program's and the document's: walked. -/
namespace Go.Proofs.YtihgmlcmdpmhhaaDoor
set_option linter.unusedVariables false
set_option linter.unusedSimpArgs false
namespace Jrn
open Go.RowKit Mem Apn
def newS (b : List Int) : DS := ⟨b, b, b.length, false, 0, 0, 0⟩
set_option maxHeartbeats 4000000 in
set_option maxRecDepth 100000 in
theorem new_any (ok : Nat → Prop) (A : Option Addr) (n c : Nat) (b : List Int) (w : World) (hr : RdN w ok .u8 A n b) (hn : n ≤ 1000000000) :
    Calls Tryd.prog 25 #[.slice A n c] w fun e w' => ∃ P, e = .returned (.pointer (some ⟨P, 0, none⟩)) ∧ w.heap.size ≤ P ∧ Dk w' (fun k => w.heap.size ≤ k ∧ k < w'.heap.size) P (newS b) ∧ Below w.heap.size w w' := by
  have hbl := hr.len
  have HO := Held.mk (own_any ok A n c b w hr (by omega))
  have HR := Held.mk hr
  clear hr
  go_enter Tryd.func25, Tryd.ntmps25
  go_wp2_with fail
  refine HO.out.mono ?_
  rintro e w1 ⟨v1, rfl, ho1, hb1⟩
  have HO1 := Held.mk ho1
  have HB1 := Held.mk hb1
  have HOx := Held.mk (own_any ok A n c b w1 (RdV.keep HR.out (Keep.of_below hb1 (fun _ => False)) (fun _ _ h => h)) (by omega))
  clear ho1 hb1 HO
  go_wp2_with fail
  refine HOx.out.mono ?_
  rintro e w2 ⟨v2, rfl, ho2, hb2⟩
  have HO2 := Held.mk ho2
  have HB2 := Held.mk hb2
  obtain ⟨A1, hA1⟩ := HO1.out.2
  obtain ⟨A2, hA2⟩ := HO2.out.2
  subst hA1
  subst hA2
  clear ho2 hb2 HOx
  rw [hbl] at HO1 HO2
  rw [hbl]
  go_wp2_with fail
  go_ret
  have hk : Keep (fun _ => False) w2 (w2.alloc (.cells #[.slice A1 n n, .slice A2 n n, .int .i64 (n : Int), .bool false, .int .i64 0, .bool false, .int .i64 0, .int .i64 0] 115)) := (Keep.refl _ w2).alloc _
  have hb := Blk.new w2 115 #[.slice A1 n n, .slice A2 n n, .int .i64 (n : Int), .bool false, .int .i64 0, .bool false, .int .i64 0, .int .i64 0]
  have s1 := HB1.out.size
  have s2 := HB2.out.size
  have o1 := hk.own ((Keep.of_below HB2.out (fun _ => False)).own HO1.out.1 (fun _ _ h => h)) (fun _ _ h => h)
  have o2 := hk.own HO2.out.1 (fun _ _ h => h)
  refine ⟨w2.heap.size, rfl, by omega, ⟨⟨.slice A1 n n, .slice A2 n n, false, 0, ?_, own_rebase o1 (fun _ _ => Nat.zero_le _), own_rebase o2 (fun _ _ => Nat.zero_le _), ?_, .inr ⟨rfl, rfl⟩, ?_, ?_⟩, ?_⟩, ?_⟩
  · simpa [newS, hbl] using hb
  · intro k h1 h2
    have := own_lt HO1.out.1 k h1
    have := own_ge HO2.out.1 k h2
    omega
  · intro k h1
    have := own_lt HO1.out.1 k h1
    have := own_ge HO1.out.1 k h1
    exact ⟨by omega, by rw [World.size_alloc]; omega⟩
  · intro k h1
    have := own_lt HO2.out.1 k h1
    have := own_ge HO2.out.1 k h1
    exact ⟨by omega, by rw [World.size_alloc]; omega⟩
  · exact ⟨by omega, by rw [World.size_alloc]; omega⟩
  · exact (HB1.out.trans (HB2.out.mono s1)).alloc (by omega) _
set_option maxHeartbeats 4000000 in
set_option maxRecDepth 100000 in
theorem rnew_any (ok : Nat → Prop) (A : Option Addr) (n c : Nat) (b : List Int) (w : World) (hr : RdN w ok .u8 A n b) (hn : n ≤ 1000000000) :
    Calls Tryd.prog 32 #[.slice A n c] w fun e w' => ∃ P, e = .returned (.pointer (some ⟨P, 0, none⟩)) ∧ w.heap.size ≤ P ∧ Rk w' (fun k => w.heap.size ≤ k ∧ k < w'.heap.size) P (newS b) ∧ Below w.heap.size w w' := by
  have hbl := hr.len
  have HO := Held.mk (copy_ ok A n c b w hr (by omega))
  have HR := Held.mk hr
  clear hr
  go_enter Tryd.func32, Tryd.ntmps32
  go_wp2_with fail
  refine HO.out.mono ?_
  rintro e w1 ⟨A1, c1, rfl, hc1, hr1, hb1⟩
  have HR1 := Held.mk (And.intro hc1 hr1)
  have HB1 := Held.mk hb1
  have HOx := Held.mk (copy_ ok A n c b w1 (RdV.keep HR.out (Keep.of_below hb1 (fun _ => False)) (fun _ _ h => h)) (by omega))
  clear hr1 hc1 hb1 HO
  go_wp2_with fail
  refine HOx.out.mono ?_
  rintro e w2 ⟨A2, c2, rfl, hc2, hr2, hb2⟩
  have HR2 := Held.mk (And.intro hc2 hr2)
  have HB2 := Held.mk hb2
  clear hr2 hc2 hb2 HOx
  go_wp2_with fail
  go_ret
  have hk : Keep (fun _ => False) w2 (w2.alloc (.cells #[.slice A1 n c1, .slice A2 n c2, .int .i64 (n : Int), .bool false, .int .i64 0, .int .i64 0, .int .i64 0] 90)) := (Keep.refl _ w2).alloc _
  have hb := Blk.new w2 90 #[.slice A1 n c1, .slice A2 n c2, .int .i64 (n : Int), .bool false, .int .i64 0, .int .i64 0, .int .i64 0]
  have s1 := HB1.out.size
  have s2 := HB2.out.size
  have o1 := RdV.keep (RdV.keep HR1.out.2 (Keep.of_below HB2.out (fun _ => False)) (fun _ _ h => h)) hk (fun _ _ h => h)
  have o2 := RdV.keep HR2.out.2 hk (fun _ _ h => h)
  refine ⟨w2.heap.size, rfl, by omega, ⟨⟨A1, A2, c1, c2, ?_, ?_, ?_, ?_, ?_⟩, ?_⟩, ?_⟩
  · simpa [newS, hbl] using hb
  · simp only [newS, hbl]; exact HR1.out.1
  · simp only [newS, hbl]; exact HR2.out.1
  · simp only [newS, hbl]
    exact o1.mono (fun j hj => ⟨⟨hj.1, by rw [World.size_alloc]; omega⟩, by omega⟩)
  · simp only [newS, hbl]
    exact o2.mono (fun j hj => ⟨⟨by omega, by rw [World.size_alloc]; omega⟩, by omega⟩)
  · exact ⟨by omega, by rw [World.size_alloc]; omega⟩
  · exact (HB1.out.trans (HB2.out.mono s1)).alloc (by omega) _
end Jrn
end Go.Proofs.YtihgmlcmdpmhhaaDoor
