/- What is done to a disk's bytes: appended to, cut: walked. -/
import Derived.Test.YtihgmlcmdpmhhaaDfl
namespace Go.Proofs.Ytihgmlcmdpmhhaa
set_option linter.unusedVariables false
set_option linter.unusedSimpArgs false
namespace Jrn
open Go.RowKit Mem Apn Go.Proofs.YtihgmlcmdpmhhaaW.PrintLast
def addS (s : DS) (b : List Int) : DS := ⟨s.B ++ b, s.D, s.least, s.dead, s.failed, s.inn, s.keep⟩
def cutS (s : DS) (n : Nat) : DS := ⟨s.B.take n, s.D, min s.least n, s.dead, s.failed, s.inn, s.keep⟩
set_option maxHeartbeats 2000000 in
set_option maxRecDepth 100000 in
theorem write1_any (F : Nat → Prop) (P bx bz : Nat) (s : DS) (ok : Nat → Prop) (A : Option Addr) (n c : Nat) (b : List Int) (w : World) (h : Dk w F P s) (hs : s.Good) (hx : Blk w bx 35 #[.pointer (some ⟨P, 0, none⟩)])
    (hz : Blk w bz 23 #[.slice A n c]) (hr : RdN w ok .u8 A n b) (hn : n ≤ 67108864) (hF : ¬ F bx) (hF2 : ¬ F bz) :
    Calls Try.prog 44 #[.pointer (some ⟨bx, 0, none⟩), .pointer (some ⟨bz, 0, none⟩)] w fun e w' => e = .returned (.tuple #[]) ∧ Dk w' (Nw F w w') P (addS s b) ∧ Keep F w w' := by
  have HD := Held.mk h
  obtain ⟨v1, v2, armed, inn, h1, h2, h3, h4, h5, h6, h7⟩ := h.ex
  obtain ⟨A1, c1, rfl, hc1, hr1⟩ := rd_own h2
  have x0 := hx.cell 0
  have z0 := hz.cell 0
  have p0 := h1.cell 0
  simp at x0 z0 p0
  have HBk := Held.mk h1
  have HO1 := Held.mk h2
  have HO2 := Held.mk h3
  have HNe := Held.mk h4
  have HAr := Held.mk h5
  have H67 := Held.mk (And.intro h6 h7)
  have HR := Held.mk hr
  have HC : Held (((s.B.length + n) + (s.B.length + n) / 4 + 192) * 1 ≤ 281474976710656) := ⟨by have := hs.lb; omega⟩
  have nP : Held ((Value.slice A1 s.B.length c1).ownBlock ≠ some P) := ⟨own_blk_ne h2 h1 (by decide)⟩
  have nX : Held ((Value.slice A1 s.B.length c1).ownBlock ≠ some bx) := ⟨fun e => hF (h6 bx e)⟩
  have nZ : Held ((Value.slice A1 s.B.length c1).ownBlock ≠ some bz) := ⟨fun e => hF2 (h6 bz e)⟩
  have fP : ∀ w3, w.grownBy w3 (Value.slice A1 s.B.length c1).ownBlock → w3.frozen? ⟨P, 0, none⟩ = false := fun w3 hg => (HBk.out.keep (Keep.of_grown hg) (fun e => nP.out e)).frozen 0
  have HFp := Held.mk fP
  clear h hx hz hr h1 h2 h3 h4 h5 h6 h7 hr1 fP hs
  go_enter Try.func44, Try.ntmps44
  go_wp2_with fail
  refine start_ (n := 10) (S := fun w' => w'.cell? ⟨bx, 0, none⟩ = some (.pointer (some ⟨P, 0, none⟩)) ∧ w'.cell? ⟨bz, 0, none⟩ = some (.slice A n c) ∧ w'.cell? ⟨P, 0, none⟩ = some (.slice A1 s.B.length c1)) (ds := [9]) #[false, false, false, false, false, false, false, false, false, false] (by kernel_rfl) rfl rfl ⟨x0, z0, p0⟩ (fun hHeld => ?_)
  refine take_ (i := 0) (N := some 2) (v := ?_) (a' := ?_) #[true, false, false, false, false, false, false, false, false, false] rfl rfl (by kernel_rfl) (fun _ _ _ h => h) (Or.inl ⟨by rfl, ?_⟩) hHeld ?_ ?_
  rotate_left
  · rintro w' ⟨s0, s1, s2⟩
    go_simp
    with_reducible rfl
  rotate_left
  · simp only [Act.put, List.setIfInBounds_toArray, List.set_cons_zero, List.set_cons_succ, i64_w, i32_w]
    rfl
  refine take_ (i := 1) (N := some 3) (v := ?_) (a' := ?_) #[true, true, false, false, false, false, false, false, false, false] rfl rfl (by kernel_rfl) (fun _ _ _ h => h) (Or.inl ⟨by rfl, ?_⟩) hHeld ?_ ?_
  rotate_left
  · rintro w' ⟨s0, s1, s2⟩
    go_simp
    with_reducible rfl
  rotate_left
  · simp only [Act.put, List.setIfInBounds_toArray, List.set_cons_zero, List.set_cons_succ, i64_w, i32_w]
    rfl
  refine pure_ (i := 2) (N := some 4) (v := ?_) (a' := ?_) #[true, true, true, false, false, false, false, false, false, false] rfl rfl (by kernel_rfl) (fun _ _ _ h => h) (Or.inl ⟨by rfl, ?_⟩) ?_ ?_
  rotate_left
  · intro w'
    go_simp
    with_reducible rfl
  rotate_left
  · simp only [Act.put, List.setIfInBounds_toArray, List.set_cons_zero, List.set_cons_succ, i64_w, i32_w]
    rfl
  refine pure_ (i := 3) (N := some 5) (v := ?_) (a' := ?_) #[true, true, true, true, false, false, false, false, false, false] rfl rfl (by kernel_rfl) (fun _ _ _ h => h) (Or.inl ⟨by rfl, ?_⟩) ?_ ?_
  rotate_left
  · intro w'
    go_simp
    with_reducible rfl
  rotate_left
  · simp only [Act.put, List.setIfInBounds_toArray, List.set_cons_zero, List.set_cons_succ, i64_w, i32_w]
    rfl
  refine take_ (i := 4) (N := some 6) (v := ?_) (a' := ?_) #[true, true, true, true, true, false, false, false, false, false] rfl rfl (by kernel_rfl) (fun _ _ _ h => h) (Or.inl ⟨by rfl, ?_⟩) hHeld ?_ ?_
  rotate_left
  · rintro w' ⟨s0, s1, s2⟩
    go_simp
    with_reducible rfl
  rotate_left
  · simp only [Act.put, List.setIfInBounds_toArray, List.set_cons_zero, List.set_cons_succ, i64_w, i32_w]
    rfl
  refine take_ (i := 5) (N := some 7) (v := ?_) (a' := ?_) #[true, true, true, true, true, true, false, false, false, false] rfl rfl (by kernel_rfl) (fun _ _ _ h => h) (Or.inl ⟨by rfl, ?_⟩) hHeld ?_ ?_
  rotate_left
  · rintro w' ⟨s0, s1, s2⟩
    go_simp
    with_reducible rfl
  rotate_left
  · simp only [Act.put, List.setIfInBounds_toArray, List.set_cons_zero, List.set_cons_succ, i64_w, i32_w]
    rfl
  refine one_ (i := 6) (N := some 8) #[true, true, true, true, true, true, true, false, false, false] rfl rfl (by kernel_rfl) (by decide) (fun K hK => ?_)
  refine stepN 0 rfl (.tmp 6) (.tmp 7) 23 5 .u8 1 rfl Try.underlying23 Wire.info_u8 (by decide) _ s.B rfl HO1.out ok A n c b rfl HR.out HC.out (Nat.zero_le _) ?_
  intro v3 w3 ho3 hg3 hat3
  obtain ⟨A3, n3, c3, rfl, hn3, _⟩ := ho3.slice
  have hg3 : w.grownBy w3 (Value.slice A1 s.B.length c1).ownBlock := ⟨hg3.os, hg3.tape, hg3.output, hg3.size, hg3.block⟩
  have hat3 : (Value.slice A3 n3 c3).ownBlock = (Value.slice A1 s.B.length c1).ownBlock ∨ ∃ b, (Value.slice A3 n3 c3).ownBlock = some b ∧ w.heap.size ≤ b := hat3
  have e1 := (Keep.of_grown hg3).cell (a := ⟨bx, 0, none⟩) x0 nX.out
  have e2 := (Keep.of_grown hg3).cell (a := ⟨bz, 0, none⟩) z0 nZ.out
  have e3 := (Keep.of_grown hg3).cell (a := ⟨P, 0, none⟩) p0 nP.out
  have e4 := HFp.out w3 hg3
  refine hK.out _ _ ⟨e1, e2, e3⟩ (fun hHeld => ?_)
  clear hK K
  refine norm_ (a' := ?_) ?_ ?_
  rotate_left
  · show Act.put _ (some 8) _ = _
    simp only [Act.put, List.setIfInBounds_toArray, List.set_cons_zero, List.set_cons_succ, i64_w, i32_w]
    rfl
  refine pure_ (i := 7) (N := some 9) (v := ?_) (a' := ?_) #[true, true, true, true, true, true, true, true, false, false] rfl rfl (by kernel_rfl) (fun _ _ _ h => h) (Or.inl ⟨by rfl, ?_⟩) ?_ ?_
  rotate_left
  · intro w'
    go_simp
    with_reducible rfl
  rotate_left
  · simp only [Act.put, List.setIfInBounds_toArray, List.set_cons_zero, List.set_cons_succ, i64_w, i32_w]
    rfl
  refine pure_ (i := 8) (N := some 10) (v := ?_) (a' := ?_) #[true, true, true, true, true, true, true, true, true, false] rfl rfl (by kernel_rfl) (fun _ _ _ h => h) (Or.inl ⟨by rfl, ?_⟩) ?_ ?_
  rotate_left
  · intro w'
    go_simp
    with_reducible rfl
  rotate_left
  · simp only [Act.put, List.setIfInBounds_toArray, List.set_cons_zero, List.set_cons_succ, i64_w, i32_w]
    rfl
  refine last_ (i := 9) (N := none) #[true, true, true, true, true, true, true, true, true, true] rfl rfl (by kernel_rfl) (by decide) (fun K hK => ?_)
  refine skip_ (w1 := ?_) (by rfl) rfl ?_ ?_
  rotate_left
  · go_simp
    rfl
  refine hK.out _ _ ?_
  clear hK K
  refine done_ (by kernel_rfl) ?_
  go_wp2_with fail
  go_end0
  have k1 := Keep.of_grown hg3
  have hB3 := HBk.out.keep k1 (fun e => nP.out e)
  have h2' := k1.own HO2.out (fun j hj e => HNe.out j e hj)
  have kf : Keep F w w3 := k1.mono (fun j _ e => H67.out.1 j e)
  have hlt : ∀ j, (Value.slice A3 n3 c3).ownBlock = some j → j < w3.heap.size := fun j hj => own_lt ho3 j hj
  refine ⟨rfl, dk_of (s' := addS s b) hB3 ho3 h2' ?_ (kp _) (by have := hB3.set_ 0 (.slice A3 n3 c3); simpa [addS] using this) HAr.out ?_ (fun j hj => .inl (H67.out.2 j hj)) (.inl HD.out.pF), kf.setCell (p := ⟨P, 0, none⟩) (fun _ => HD.out.pF) _⟩
  · intro j hj hj2
    rcases hat3 with h8 | ⟨b', h8, h9⟩
    · exact HNe.out j (h8 ▸ hj) hj2
    · rw [h8] at hj
      injection hj with hj
      have := own_lt HO2.out j hj2
      omega
  · intro j hj
    rcases hat3 with h8 | ⟨b', h8, h9⟩
    · exact .inl (H67.out.1 j (h8 ▸ hj))
    · have h10 := hlt j hj
      rw [h8] at hj
      injection hj with hj
      exact .inr ⟨by omega, by simpa using h10⟩
set_option maxHeartbeats 2000000 in
set_option maxRecDepth 100000 in
theorem cut1_any (F : Nat → Prop) (P bx bz : Nat) (s : DS) (n : Nat) (w : World) (h : Dk w F P s) (hs : s.Good) (hx : Blk w bx 35 #[.pointer (some ⟨P, 0, none⟩)])
    (hz : Blk w bz 3 #[.int .i64 n]) (hn : n ≤ s.B.length) (hF : ¬ F bx) (hF2 : ¬ F bz) :
    Calls Try.prog 42 #[.pointer (some ⟨bx, 0, none⟩), .pointer (some ⟨bz, 0, none⟩)] w fun e w' => e = .returned (.tuple #[]) ∧ Dk w' F P (cutS s n) ∧ Keep F w w' := by
  have HD := Held.mk h
  obtain ⟨v1, v2, armed, inn, h1, h2, h3, h4, h5, h6, h7⟩ := h.ex
  obtain ⟨A1, c1, rfl, hc1, hr1⟩ := rd_own h2
  have x0 := hx.cell 0
  have z0 := hz.cell 0
  have p0 := h1.cell 0
  have p2 := h1.cell 2
  have fr0 := h1.frozen 0
  have fr2 := h1.frozen 2
  simp at x0 z0 p0 p2
  have HBk := Held.mk h1
  have HOc := Held.mk (OwnC.cut h2 hn)
  have HO2 := Held.mk h3
  have HNe := Held.mk h4
  have HAr := Held.mk h5
  have H67 := Held.mk (And.intro h6 h7)
  have nx : bx ≠ P := fun e => hF (e ▸ HD.out.pF)
  have nz : bz ≠ P := fun e => hF2 (e ▸ HD.out.pF)
  have hnI : 0 ≤ (n : Int) ∧ (n : Int) ≤ (c1 : Int) := ⟨by omega, by omega⟩
  have hle := hs.least
  clear h hx hz h1 h2 h3 h4 h5 h6 h7 hr1 hs
  go_enter Try.func42, Try.ntmps42
  go_wp2_with fail
  refine start_ (n := 11) (S := fun w' => w'.cell? ⟨bx, 0, none⟩ = some (.pointer (some ⟨P, 0, none⟩)) ∧ w'.cell? ⟨bz, 0, none⟩ = some (.int .i64 (n : Int)) ∧ w'.cell? ⟨P, 0, none⟩ = some (.slice A1 s.B.length c1)) (ds := [10]) #[false, false, false, false, false, false, false, false, false, false, false] (by kernel_rfl) rfl rfl ⟨x0, z0, p0⟩ (fun hHeld => ?_)
  refine take_ (i := 0) (N := some 2) (v := ?_) (a' := ?_) #[true, false, false, false, false, false, false, false, false, false, false] rfl rfl (by kernel_rfl) (fun _ _ _ h => h) (Or.inl ⟨by rfl, ?_⟩) hHeld ?_ ?_
  rotate_left
  · rintro w' ⟨s0, s1, s2⟩
    go_simp
    with_reducible rfl
  rotate_left
  · simp only [Act.put, List.setIfInBounds_toArray, List.set_cons_zero, List.set_cons_succ, i64_w, i32_w]
    rfl
  refine take_ (i := 1) (N := some 3) (v := ?_) (a' := ?_) #[true, true, false, false, false, false, false, false, false, false, false] rfl rfl (by kernel_rfl) (fun _ _ _ h => h) (Or.inl ⟨by rfl, ?_⟩) hHeld ?_ ?_
  rotate_left
  · rintro w' ⟨s0, s1, s2⟩
    go_simp
    with_reducible rfl
  rotate_left
  · simp only [Act.put, List.setIfInBounds_toArray, List.set_cons_zero, List.set_cons_succ, i64_w, i32_w]
    rfl
  refine pure_ (i := 2) (N := some 4) (v := ?_) (a' := ?_) #[true, true, true, false, false, false, false, false, false, false, false] rfl rfl (by kernel_rfl) (fun _ _ _ h => h) (Or.inl ⟨by rfl, ?_⟩) ?_ ?_
  rotate_left
  · intro w'
    go_simp
    with_reducible rfl
  rotate_left
  · simp only [Act.put, List.setIfInBounds_toArray, List.set_cons_zero, List.set_cons_succ, i64_w, i32_w]
    rfl
  refine pure_ (i := 3) (N := some 5) (v := ?_) (a' := ?_) #[true, true, true, true, false, false, false, false, false, false, false] rfl rfl (by kernel_rfl) (fun _ _ _ h => h) (Or.inl ⟨by rfl, ?_⟩) ?_ ?_
  rotate_left
  · intro w'
    go_simp
    with_reducible rfl
  rotate_left
  · simp only [Act.put, List.setIfInBounds_toArray, List.set_cons_zero, List.set_cons_succ, i64_w, i32_w]
    rfl
  refine take_ (i := 4) (N := some 6) (v := ?_) (a' := ?_) #[true, true, true, true, true, false, false, false, false, false, false] rfl rfl (by kernel_rfl) (fun _ _ _ h => h) (Or.inl ⟨by rfl, ?_⟩) hHeld ?_ ?_
  rotate_left
  · rintro w' ⟨s0, s1, s2⟩
    go_simp
    with_reducible rfl
  rotate_left
  · simp only [Act.put, List.setIfInBounds_toArray, List.set_cons_zero, List.set_cons_succ, i64_w, i32_w]
    rfl
  refine take_ (i := 5) (N := some 7) (v := ?_) (a' := ?_) #[true, true, true, true, true, true, false, false, false, false, false] rfl rfl (by kernel_rfl) (fun _ _ _ h => h) (Or.inl ⟨by rfl, ?_⟩) hHeld ?_ ?_
  rotate_left
  · rintro w' ⟨s0, s1, s2⟩
    go_simp
    with_reducible rfl
  rotate_left
  · simp only [Act.put, List.setIfInBounds_toArray, List.set_cons_zero, List.set_cons_succ, i64_w, i32_w]
    rfl
  refine take_ (i := 6) (N := some 8) (v := ?_) (a' := ?_) #[true, true, true, true, true, true, true, false, false, false, false] rfl rfl (by kernel_rfl) (fun _ _ _ h => h) (Or.inl ⟨by rfl, ?_⟩) hHeld ?_ ?_
  rotate_left
  · rintro w' ⟨s0, s1, s2⟩
    go_simp
    with_reducible rfl
  rotate_left
  · simp only [Act.put, List.setIfInBounds_toArray, List.set_cons_zero, List.set_cons_succ, i64_w, i32_w]
    rfl
  refine pure_ (i := 7) (N := some 9) (v := ?_) (a' := ?_) #[true, true, true, true, true, true, true, true, false, false, false] rfl rfl (by kernel_rfl) (fun _ _ _ h => h) (Or.inl ⟨by rfl, ?_⟩) ?_ ?_
  rotate_left
  · intro w'
    go_simp
    with_reducible rfl
  rotate_left
  · simp only [Act.put, List.setIfInBounds_toArray, List.set_cons_zero, List.set_cons_succ, i64_w, i32_w]
    rfl
  refine pure_ (i := 8) (N := some 10) (v := ?_) (a' := ?_) #[true, true, true, true, true, true, true, true, true, false, false] rfl rfl (by kernel_rfl) (fun _ _ _ h => h) (Or.inl ⟨by rfl, ?_⟩) ?_ ?_
  rotate_left
  · intro w'
    go_simp
    with_reducible rfl
  rotate_left
  · simp only [Act.put, List.setIfInBounds_toArray, List.set_cons_zero, List.set_cons_succ, i64_w, i32_w]
    rfl
  refine pure_ (i := 9) (N := some 11) (v := ?_) (a' := ?_) #[true, true, true, true, true, true, true, true, true, true, false] rfl rfl (by kernel_rfl) (fun _ _ _ h => h) (Or.inl ⟨by rfl, ?_⟩) ?_ ?_
  rotate_left
  · intro w'
    go_simp
    with_reducible rfl
  rotate_left
  · simp only [Act.put, List.setIfInBounds_toArray, List.set_cons_zero, List.set_cons_succ, i64_w, i32_w]
    rfl
  refine last_ (i := 10) (N := none) #[true, true, true, true, true, true, true, true, true, true, true] rfl rfl (by kernel_rfl) (by decide) (fun K hK => ?_)
  refine skip_ (w1 := ?_) (by rfl) rfl ?_ ?_
  rotate_left
  · go_simp
    rfl
  refine hK.out _ _ ?_
  clear hK K
  refine done_ (by kernel_rfl) ?_
  have k1 : Keep (fun j => j = P) w (w.setCell ⟨P, 0, none⟩ (.slice A1 n n)).drew := (kp _).drew
  have b1 : Blk (w.setCell ⟨P, 0, none⟩ (.slice A1 n n)).drew P 73 #[.slice A1 n n, v2, .int .i64 s.least, .bool s.dead, .int .i64 s.failed, .bool armed, .int .i64 inn, .int .i64 s.keep] := by
    have := (HBk.out.set_ 0 (.slice A1 n n)).drew
    simpa using this
  have o1 := k1.own HOc.out.1 (fun j hj e => by rw [e] at hj; exact own_blk_ne HOc.out.1 HBk.out (by decide) hj)
  have o2 := k1.own HO2.out (fun j hj e => by rw [e] at hj; exact own_blk_ne HO2.out HBk.out (by decide) hj)
  have x1 := k1.cell x0 nx
  have z1 := k1.cell z0 nz
  have p1 := b1.cell 2
  have fr1 := b1.frozen 2
  have K1 := Held.mk k1
  have B1 := Held.mk b1
  have O1 := Held.mk o1
  have O2 := Held.mk o2
  simp only [show (#[Value.slice A1 n n, v2, .int .i64 (s.least : Int), .bool s.dead, .int .i64 (s.failed : Int), .bool armed, .int .i64 inn, .int .i64 s.keep] : Array Value)[2]? = some (.int .i64 (s.least : Int)) from rfl] at p1
  generalize (w.setCell ⟨P, 0, none⟩ (.slice A1 n n)).drew = w2 at *
  clear k1 b1 o1 o2 x0 z0 p0 p2 fr0 fr2
  go_wp2_with fail
  refine start_ (n := 10) (S := fun w' => w'.cell? ⟨bx, 0, none⟩ = some (.pointer (some ⟨P, 0, none⟩)) ∧ w'.cell? ⟨bz, 0, none⟩ = some (.int .i64 (n : Int)) ∧ w'.cell? ⟨P, 2, none⟩ = some (.int .i64 (s.least : Int))) (ds := [9]) #[false, false, false, false, false, false, false, false, false, false] (by kernel_rfl) rfl rfl ⟨x1, z1, p1⟩ (fun hHeld => ?_)
  refine take_ (i := 0) (N := some 12) (v := ?_) (a' := ?_) #[true, false, false, false, false, false, false, false, false, false] rfl rfl (by kernel_rfl) (fun _ _ _ h => h) (Or.inl ⟨by rfl, ?_⟩) hHeld ?_ ?_
  rotate_left
  · rintro w' ⟨s0, s1, s2⟩
    go_simp
    with_reducible rfl
  rotate_left
  · simp only [Act.put, List.setIfInBounds_toArray, List.set_cons_zero, List.set_cons_succ, i64_w, i32_w]
    rfl
  refine take_ (i := 1) (N := some 13) (v := ?_) (a' := ?_) #[true, true, false, false, false, false, false, false, false, false] rfl rfl (by kernel_rfl) (fun _ _ _ h => h) (Or.inl ⟨by rfl, ?_⟩) hHeld ?_ ?_
  rotate_left
  · rintro w' ⟨s0, s1, s2⟩
    go_simp
    with_reducible rfl
  rotate_left
  · simp only [Act.put, List.setIfInBounds_toArray, List.set_cons_zero, List.set_cons_succ, i64_w, i32_w]
    rfl
  refine pure_ (i := 2) (N := some 14) (v := ?_) (a' := ?_) #[true, true, true, false, false, false, false, false, false, false] rfl rfl (by kernel_rfl) (fun _ _ _ h => h) (Or.inl ⟨by rfl, ?_⟩) ?_ ?_
  rotate_left
  · intro w'
    go_simp
    with_reducible rfl
  rotate_left
  · simp only [Act.put, List.setIfInBounds_toArray, List.set_cons_zero, List.set_cons_succ, i64_w, i32_w]
    rfl
  refine pure_ (i := 3) (N := some 15) (v := ?_) (a' := ?_) #[true, true, true, true, false, false, false, false, false, false] rfl rfl (by kernel_rfl) (fun _ _ _ h => h) (Or.inl ⟨by rfl, ?_⟩) ?_ ?_
  rotate_left
  · intro w'
    go_simp
    with_reducible rfl
  rotate_left
  · simp only [Act.put, List.setIfInBounds_toArray, List.set_cons_zero, List.set_cons_succ, i64_w, i32_w]
    rfl
  refine take_ (i := 4) (N := some 16) (v := ?_) (a' := ?_) #[true, true, true, true, true, false, false, false, false, false] rfl rfl (by kernel_rfl) (fun _ _ _ h => h) (Or.inl ⟨by rfl, ?_⟩) hHeld ?_ ?_
  rotate_left
  · rintro w' ⟨s0, s1, s2⟩
    go_simp
    with_reducible rfl
  rotate_left
  · simp only [Act.put, List.setIfInBounds_toArray, List.set_cons_zero, List.set_cons_succ, i64_w, i32_w]
    rfl
  refine take_ (i := 5) (N := some 17) (v := ?_) (a' := ?_) #[true, true, true, true, true, true, false, false, false, false] rfl rfl (by kernel_rfl) (fun _ _ _ h => h) (Or.inl ⟨by rfl, ?_⟩) hHeld ?_ ?_
  rotate_left
  · rintro w' ⟨s0, s1, s2⟩
    go_simp
    with_reducible rfl
  rotate_left
  · simp only [Act.put, List.setIfInBounds_toArray, List.set_cons_zero, List.set_cons_succ, i64_w, i32_w]
    rfl
  refine pure_ (i := 6) (N := some 18) (v := ?_) (a' := ?_) #[true, true, true, true, true, true, true, false, false, false] rfl rfl (by kernel_rfl) (fun _ _ _ h => h) (Or.inl ⟨by rfl, ?_⟩) ?_ ?_
  rotate_left
  · intro w'
    go_simp
    with_reducible rfl
  rotate_left
  · simp only [Act.put, List.setIfInBounds_toArray, List.set_cons_zero, List.set_cons_succ, i64_w, i32_w]
    rfl
  refine pure_ (i := 7) (N := some 19) (v := ?_) (a' := ?_) #[true, true, true, true, true, true, true, true, false, false] rfl rfl (by kernel_rfl) (fun _ _ _ h => h) (Or.inl ⟨by rfl, ?_⟩) ?_ ?_
  rotate_left
  · intro w'
    go_simp
    with_reducible rfl
  rotate_left
  · simp only [Act.put, List.setIfInBounds_toArray, List.set_cons_zero, List.set_cons_succ, i64_w, i32_w]
    rfl
  refine pure_ (i := 8) (N := some 20) (v := ?_) (a' := ?_) #[true, true, true, true, true, true, true, true, true, false] rfl rfl (by kernel_rfl) (fun _ _ _ h => h) (Or.inl ⟨by rfl, ?_⟩) ?_ ?_
  rotate_left
  · intro w'
    go_simp
    with_reducible rfl
  rotate_left
  · simp only [Act.put, List.setIfInBounds_toArray, List.set_cons_zero, List.set_cons_succ, i64_w, i32_w]
    rfl
  refine last_ (i := 9) (N := none) #[true, true, true, true, true, true, true, true, true, true] rfl rfl (by kernel_rfl) (by decide) (fun K hK => ?_)
  refine skip_ (w1 := ?_) (by rfl) rfl ?_ ?_
  rotate_left
  · go_simp
    rfl
  refine hK.out _ _ ?_
  clear hK K
  refine done_ (by kernel_rfl) ?_
  go_wp2_with fail
  go_end0
  have em : ((min s.least n : Nat) : Int) = min (s.least : Int) (n : Int) := by omega
  have hl : (s.B.take n).length = n := by rw [List.length_take]; omega
  have k2 : Keep (fun j => j = P) w2 (w2.setCell ⟨P, 2, none⟩ (.int .i64 (min (s.least : Int) (n : Int)))).drew := (kp _).drew
  have b2 := (B1.out.set_ 2 (.int .i64 (min (s.least : Int) (n : Int)))).drew
  have h8 : ∀ j, (Value.slice A1 n n).ownBlock = some j → (Value.slice A1 s.B.length c1).ownBlock = some j := fun j h => by cases A1 <;> exact h
  refine ⟨rfl, dk_of (s' := cutS s n) B1.out O1.out O2.out (fun j hj => HNe.out j (h8 j hj)) k2 (by simpa [cutS, em] using b2) HAr.out (fun j hj => H67.out.1 j (h8 j hj)) H67.out.2 HD.out.pF, (K1.out.trans k2).mono (fun j _ e => e ▸ HD.out.pF)⟩
end Jrn
end Go.Proofs.Ytihgmlcmdpmhhaa
