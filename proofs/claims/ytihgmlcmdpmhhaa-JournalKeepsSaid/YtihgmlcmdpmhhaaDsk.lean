/- A disk: what it holds (plain); the program's disk in memory; fail, Arm, Crash, Revive, Durable, Bytes: walked. -/
import Derived.Test.YtihgmlcmdpmhhaaDko
import Derived.Deep.RegionHeld3
import Derived.BigQuiet
import Derived.Test.YtihgmlcmdpmhhaaWLast
namespace Go.Proofs.Ytihgmlcmdpmhhaa
set_option linter.unusedVariables false
set_option linter.unusedSimpArgs false
namespace Jrn
open Go.RowKit Mem Apn Go.Proofs.YtihgmlcmdpmhhaaW.PrintLast
/-- What a disk holds. -/
structure DS where
  B : List Int
  D : List Int
  least : Nat
  dead : Bool
  failed : Nat
  inn : Nat
  keep : Int
structure DS.Good (s : DS) : Prop where
  least : s.least ≤ s.B.length
  lb : s.B.length ≤ 140737488355328
  ld : s.D.length ≤ 140737488355328
  failed : s.failed ≤ 4611686018427387904
  inn : s.inn ≤ 9223372036854775807
  keep : -9223372036854775808 ≤ s.keep ∧ s.keep ≤ 9223372036854775807
/-- What is left where the power fails. -/
def leftS (s : DS) (k : Int) : List Int := if 1 ≤ k then s.B.take (s.least + min k.toNat (s.B.length - s.least)) else s.D
def failS (s : DS) (k : Int) : DS := ⟨leftS s k, leftS s k, (leftS s k).length, true, s.failed + 1, 0, s.keep⟩
def armS (s : DS) (n k : Int) : DS := if s.dead then s else ⟨s.B, s.D, s.least, s.dead, s.failed, (max n 1).toNat, k⟩
def crashS (s : DS) (k : Int) : DS := if s.dead then s else failS s k
def reviveS (s : DS) : DS := ⟨s.B, s.D, s.least, false, s.failed, 0, s.keep⟩
theorem leftS_len (s : DS) (k : Int) (h : s.Good) : (leftS s k).length ≤ 140737488355328 := by
  unfold leftS
  split
  · rw [List.length_take]
    have := h.lb
    omega
  · exact h.ld
/-- The program's disk at block P, its rows in blocks of F. -/
structure Dk (w : World) (F : Nat → Prop) (P : Nat) (s : DS) : Prop where
  ex : ∃ (v1 v2 : Value) (armed : Bool) (inn : Int), Blk w P 73 #[v1, v2, .int .i64 s.least, .bool s.dead, .int .i64 s.failed, .bool armed, .int .i64 inn, .int .i64 s.keep] ∧
    OwnN w 0 5 .u8 v1 s.B ∧ OwnN w 0 5 .u8 v2 s.D ∧ (∀ k, v1.ownBlock = some k → v2.ownBlock ≠ some k) ∧ ((armed = true ∧ inn = s.inn ∧ 1 ≤ s.inn) ∨ (armed = false ∧ s.inn = 0)) ∧
    (∀ k, v1.ownBlock = some k → F k) ∧ (∀ k, v2.ownBlock = some k → F k)
  pF : F P
/-- The same, whatever the two cells of the arming hold. -/
structure Dk0 (w : World) (F : Nat → Prop) (P : Nat) (s : DS) : Prop where
  ex : ∃ (v1 v2 : Value) (armed : Bool) (inn : Int), Blk w P 73 #[v1, v2, .int .i64 s.least, .bool s.dead, .int .i64 s.failed, .bool armed, .int .i64 inn, .int .i64 s.keep] ∧
    OwnN w 0 5 .u8 v1 s.B ∧ OwnN w 0 5 .u8 v2 s.D ∧ (∀ k, v1.ownBlock = some k → v2.ownBlock ≠ some k) ∧ True ∧
    (∀ k, v1.ownBlock = some k → F k) ∧ (∀ k, v2.ownBlock = some k → F k)
  pF : F P
theorem Dk.zero {w : World} {F : Nat → Prop} {P : Nat} {s : DS} (h : Dk w F P s) : Dk0 w F P s := by
  obtain ⟨v1, v2, armed, inn, h1, h2, h3, h4, h5, h6, h7⟩ := h.ex
  exact ⟨⟨v1, v2, armed, inn, h1, h2, h3, h4, trivial, h6, h7⟩, h.pF⟩
theorem Dk.lt {w : World} {F : Nat → Prop} {P : Nat} {s : DS} (h : Dk w F P s) : P < w.heap.size := by
  obtain ⟨v1, v2, armed, inn, h1, _⟩ := h.ex
  exact h1.lt
theorem Dk.keep_ {w w' : World} {F : Nat → Prop} {P : Nat} {s : DS} (h : Dk w F P s) {S : Nat → Prop} (hk : Keep S w w') (hS : ∀ k, F k → k < w.heap.size → ¬ S k) : Dk w' F P s := by
  obtain ⟨v1, v2, armed, inn, h1, h2, h3, h4, h5, h6, h7⟩ := h.ex
  exact ⟨⟨v1, v2, armed, inn, h1.keep hk (hS P h.pF h1.lt), hk.own h2 (fun k hk' => hS k (h6 k hk') (own_lt h2 k hk')), hk.own h3 (fun k hk' => hS k (h7 k hk') (own_lt h3 k hk')), h4, h5, h6, h7⟩, h.pF⟩
theorem Dk.below {w w' : World} {F : Nat → Prop} {P : Nat} {s : DS} (h : Dk w F P s) (hb : Below w.heap.size w w') : Dk w' F P s :=
  h.keep_ (Keep.of_below hb (fun k => ¬ k < w.heap.size)) (fun k _ hk h => h hk)
theorem Dk.mono {w : World} {F F' : Nat → Prop} {P : Nat} {s : DS} (h : Dk w F P s) (hF : ∀ k, F k → F' k) : Dk w F' P s := by
  obtain ⟨v1, v2, armed, inn, h1, h2, h3, h4, h5, h6, h7⟩ := h.ex
  exact ⟨⟨v1, v2, armed, inn, h1, h2, h3, h4, h5, fun k hk => hF k (h6 k hk), fun k hk => hF k (h7 k hk)⟩, hF P h.pF⟩
/-- The blocks of F, and those that are new. -/
def Nw (F : Nat → Prop) (w w' : World) (j : Nat) : Prop := F j ∨ (w.heap.size ≤ j ∧ j < w'.heap.size)
/-- The disk's own block is written. -/
theorem dk_of {w w' : World} {F : Nat → Prop} {P : Nat} {cs : Array Value} {v1 v2 : Value} {s' : DS} {armed : Bool} {inn : Int} (H1 : Blk w P 73 cs) (h2 : OwnN w 0 5 .u8 v1 s'.B) (h3 : OwnN w 0 5 .u8 v2 s'.D)
    (h4 : ∀ k, v1.ownBlock = some k → v2.ownBlock ≠ some k) (hk : Keep (fun k => k = P) w w')
    (hb : Blk w' P 73 #[v1, v2, .int .i64 s'.least, .bool s'.dead, .int .i64 s'.failed, .bool armed, .int .i64 inn, .int .i64 s'.keep])
    (h5 : (armed = true ∧ inn = s'.inn ∧ 1 ≤ s'.inn) ∨ (armed = false ∧ s'.inn = 0)) (h6 : ∀ k, v1.ownBlock = some k → F k) (h7 : ∀ k, v2.ownBlock = some k → F k) (hp : F P) : Dk w' F P s' :=
  ⟨⟨v1, v2, armed, inn, hb, hk.own h2 (fun k hk' e => own_blk_ne h2 H1 (by decide) (e ▸ hk')), hk.own h3 (fun k hk' e => own_blk_ne h3 H1 (by decide) (e ▸ hk')), h4, h5, h6, h7⟩, hp⟩
theorem far1 {w : World} {a p : Addr} {u v : Value} (hne : a.block ≠ p.block) (h : w.cell? a = some v) : (w.setCell p u).cell? a = some v := by
  rw [World.cell?_of_block (Below.heap_setCell w p u a.block hne)]
  exact h
theorem kp {w : World} {P i : Nat} (u : Value) : Keep (fun k => k = P) w (w.setCell ⟨P, i, none⟩ u) := (Keep.refl (fun k => k = P) w).setCell (p := ⟨P, i, none⟩) (fun _ => rfl) u
/-- Bytes of one's own, read. -/
theorem rd_own {w : World} {base : Nat} {v : Value} {xs : List Int} (h : OwnN w base 5 .u8 v xs) : ∃ A c, v = .slice A xs.length c ∧ xs.length ≤ c ∧ RdN w (fun k => v.ownBlock = some k) .u8 A xs.length xs := RdN.of_own h
set_option maxHeartbeats 1000000 in
set_option maxRecDepth 100000 in
theorem dead_any (what : ByteArray) (w : World) : Calls Try.prog 34 #[.string what] w fun e w' => e = .returned (.iface 71 (.agg #[.string what, .int .i64 23])) ∧ w' = w := by
  go_enter Try.func34, Try.ntmps34
  go_wp2
  go_ret
  exact ⟨rfl, rfl⟩
set_option maxHeartbeats 1000000 in
set_option maxRecDepth 100000 in
theorem durable_any (F : Nat → Prop) (P : Nat) (s : DS) (w : World) (h : Dk w F P s) (hs : s.Good) :
    Calls Try.prog 15 #[.pointer (some ⟨P, 0, none⟩)] w fun e w' => ∃ v, e = .returned v ∧ OwnC w' w.heap.size v s.D ∧ Below w.heap.size w w' := by
  obtain ⟨v1, v2, armed, inn, h1, h2, h3, h4, h5, h6, h7⟩ := h.ex
  have c1 := h1.cell 1
  obtain ⟨A, c, rfl, hc, hr⟩ := rd_own h3
  have HO := Held.mk (own_any _ A s.D.length c s.D w hr hs.ld)
  generalize s.D.length = m at *
  clear h h1 h2 h3 h4 h5 h6 h7 hr
  go_enter Try.func15, Try.ntmps15
  go_wp2_with fail
  refine HO.out.mono ?_
  rintro e w1 ⟨v, rfl, hv⟩
  have HV := Held.mk hv
  clear hv
  go_wp2_with fail
  go_ret
  exact ⟨v, rfl, HV.out⟩
set_option maxHeartbeats 1000000 in
set_option maxRecDepth 100000 in
theorem bytes_any (F : Nat → Prop) (P : Nat) (s : DS) (w : World) (h : Dk w F P s) (hs : s.Good) :
    Calls Try.prog 13 #[.pointer (some ⟨P, 0, none⟩)] w fun e w' => ∃ v, e = .returned (.tuple #[v, if s.dead then .iface 71 (.agg #[.string ⟨#[114, 101, 97, 100]⟩, .int .i64 23]) else .nilIface]) ∧
      OwnC w' w.heap.size v (if s.dead then [] else s.B) ∧ Below w.heap.size w w' := by
  obtain ⟨v1, v2, armed, inn, h1, h2, h3, h4, h5, h6, h7⟩ := h.ex
  have c0 := h1.cell 0
  have c3 := h1.cell 3
  obtain ⟨A, c, rfl, hc, hr⟩ := rd_own h2
  have HO := Held.mk (own_any _ A s.B.length c s.B w hr hs.lb)
  generalize s.B.length = m at *
  cases hd : s.dead with
  | true =>
    rw [hd] at c3
    clear h h1 h2 h3 h4 h5 h6 h7 hr
    go_enter Try.func13, Try.ntmps13
    go_wp2_with fail
    refine (dead_any _ w).mono ?_
    rintro e w1 ⟨rfl, rfl⟩
    go_wp2_with fail
    go_ret2
    exact ⟨_, rfl, ⟨own_nil _ _ _ _, none, rfl⟩, Below.refl _ _⟩
  | false =>
    rw [hd] at c3
    clear h h1 h2 h3 h4 h5 h6 h7 hr
    go_enter Try.func13, Try.ntmps13
    go_wp2_with fail
    refine HO.out.mono ?_
    rintro e w1 ⟨v, rfl, hv⟩
    have HV := Held.mk hv
    clear hv
    go_wp2_with fail
    go_ret2
    exact ⟨v, rfl, HV.out⟩
set_option maxHeartbeats 1000000 in
set_option maxRecDepth 100000 in
theorem revive_any (F : Nat → Prop) (P : Nat) (s : DS) (w : World) (h : Dk w F P s) :
    Calls Try.prog 20 #[.pointer (some ⟨P, 0, none⟩)] w fun e w' => e = .returned (.tuple #[]) ∧ Dk w' F P (reviveS s) ∧ Keep (fun k => k = P) w w' := by
  have HD := Held.mk h
  obtain ⟨v1, v2, armed, inn, h1, h2, h3, h4, h5, h6, h7⟩ := h.ex
  have c3 := h1.cell 3
  have c5 := h1.cell 5
  have f3 := h1.frozen 3
  have f5 := h1.frozen 5
  have H1 := Held.mk h1
  have H2 := Held.mk (And.intro h2 (And.intro h3 (And.intro h4 (And.intro h6 h7))))
  clear h h1 h2 h3 h4 h5 h6 h7
  go_enter Try.func20, Try.ntmps20
  go_wp2_with fail
  go_end0
  have hk := (kp (P := P) (i := 3) (w := w) (.bool false)).trans (kp (P := P) (i := 5) (.bool false))
  exact ⟨rfl, dk_of (s' := reviveS s) (armed := false) (inn := inn) H1.out H2.out.1 H2.out.2.1 H2.out.2.2.1 hk (by have := (H1.out.set_ 3 (.bool false)).set_ 5 (.bool false); simpa [reviveS] using this) (.inr ⟨rfl, rfl⟩) H2.out.2.2.2.1 H2.out.2.2.2.2 HD.out.pF, hk⟩
set_option maxHeartbeats 2000000 in
set_option maxRecDepth 100000 in
theorem arm_any (F : Nat → Prop) (P : Nat) (s : DS) (n k : Int) (w : World) (h : Dk w F P s) (hn : -9223372036854775808 ≤ n ∧ n ≤ 9223372036854775807) :
    Calls Try.prog 17 #[.pointer (some ⟨P, 0, none⟩), .int .i64 n, .agg #[.int .i64 k]] w fun e w' => e = .returned (.tuple #[]) ∧ Dk w' F P (armS s n k) ∧ Keep (fun k => k = P) w w' := by
  have HD := Held.mk h
  obtain ⟨v1, v2, armed, inn, h1, h2, h3, h4, h5, h6, h7⟩ := h.ex
  have h1x := h1.alloc (.cells #[.int .i64 k] 50)
  have c3 := h1x.cell 3
  have H1 := Held.mk h1
  have H2 := Held.mk (And.intro h2 (And.intro h3 (And.intro h4 (And.intro h6 h7))))
  have c5 := h1x.cell 5
  have c6 := h1x.cell 6
  have c7 := h1x.cell 7
  have f5 := h1x.frozen 5
  have f6 := h1x.frozen 6
  have f7 := h1x.frozen 7
  have HLt := Held.mk h1.lt
  clear h1 h2 h3 h4 h5 h6 h7 h1x h
  cases hd : s.dead with
  | true =>
    rw [hd] at c3
    go_enter Try.func17, Try.ntmps17
    go_wp2_with fail
    go_end0
    have hk : Keep (fun k => k = P) w (w.alloc (.cells #[.int .i64 k] 50)) := (Keep.refl _ w).alloc _
    refine ⟨rfl, ?_, hk⟩
    unfold armS
    rw [if_pos hd]
    exact HD.out.below ((Below.refl _ _).alloc (Nat.le_refl _) _)
  | false =>
    rw [hd] at c3
    go_enter Try.func17, Try.ntmps17
    go_wp2_with fail
    have e0 : (w.alloc (.cells #[.int .i64 k] 50)).cell? ⟨w.heap.size, 0, none⟩ = some (.int .i64 k) := (Blk.new w 50 #[.int .i64 k]).cell 0
    have hne : w.heap.size ≠ P := by have := HLt.out; omega
    refine start_ (n := 15) (S := fun w' => w'.cell? ⟨w.heap.size, 0, none⟩ = some (.int .i64 k)) (ds := []) #[false, false, false, false, false, false, false, false, false, false, false, false, false, false, false] (by kernel_rfl) rfl rfl (e0) (fun hHeld => ?_)
    refine pure_ (i := 0) (N := some 11) (v := ?_) (a' := ?_) #[true, false, false, false, false, false, false, false, false, false, false, false, false, false, false] rfl rfl (by kernel_rfl) (fun _ _ _ h => h) (Or.inl ⟨by rfl, ?_⟩) ?_ ?_
    rotate_left
    · intro w'
      go_simp
      with_reducible rfl
    rotate_left
    · simp only [Act.put, List.setIfInBounds_toArray, List.set_cons_zero, List.set_cons_succ, i64_w, i32_w]
      rfl
    refine pure_ (i := 1) (N := some 12) (v := ?_) (a' := ?_) #[true, true, false, false, false, false, false, false, false, false, false, false, false, false, false] rfl rfl (by kernel_rfl) (fun _ _ _ h => h) (Or.inl ⟨by rfl, ?_⟩) ?_ ?_
    rotate_left
    · intro w'
      go_simp
      with_reducible rfl
    rotate_left
    · simp only [Act.put, List.setIfInBounds_toArray, List.set_cons_zero, List.set_cons_succ, i64_w, i32_w]
      rfl
    refine pure_ (i := 2) (N := some 13) (v := ?_) (a' := ?_) #[true, true, true, false, false, false, false, false, false, false, false, false, false, false, false] rfl rfl (by kernel_rfl) (fun _ _ _ h => h) (Or.inl ⟨by rfl, ?_⟩) ?_ ?_
    rotate_left
    · intro w'
      go_simp
      with_reducible rfl
    rotate_left
    · simp only [Act.put, List.setIfInBounds_toArray, List.set_cons_zero, List.set_cons_succ, i64_w, i32_w]
      rfl
    refine pure_ (i := 3) (N := some 14) (v := ?_) (a' := ?_) #[true, true, true, true, false, false, false, false, false, false, false, false, false, false, false] rfl rfl (by kernel_rfl) (fun _ _ _ h => h) (Or.inl ⟨by rfl, ?_⟩) ?_ ?_
    rotate_left
    · intro w'
      go_simp
      with_reducible rfl
    rotate_left
    · simp only [Act.put, List.setIfInBounds_toArray, List.set_cons_zero, List.set_cons_succ, i64_w, i32_w]
      rfl
    refine pure_ (i := 4) (N := some 15) (v := ?_) (a' := ?_) #[true, true, true, true, true, false, false, false, false, false, false, false, false, false, false] rfl rfl (by kernel_rfl) (fun _ _ _ h => h) (Or.inl ⟨by rfl, ?_⟩) ?_ ?_
    rotate_left
    · intro w'
      go_simp
      with_reducible rfl
    rotate_left
    · simp only [Act.put, List.setIfInBounds_toArray, List.set_cons_zero, List.set_cons_succ, i64_w, i32_w]
      rfl
    refine pure_ (i := 6) (N := some 17) (v := ?_) (a' := ?_) #[true, true, true, true, true, false, true, false, false, false, false, false, false, false, false] rfl rfl (by kernel_rfl) (fun _ _ _ h => h) (Or.inl ⟨by rfl, ?_⟩) ?_ ?_
    rotate_left
    · intro w'
      go_simp
      with_reducible rfl
    rotate_left
    · simp only [Act.put, List.setIfInBounds_toArray, List.set_cons_zero, List.set_cons_succ, i64_w, i32_w]
      rfl
    refine pure_ (i := 7) (N := some 18) (v := ?_) (a' := ?_) #[true, true, true, true, true, false, true, true, false, false, false, false, false, false, false] rfl rfl (by kernel_rfl) (fun _ _ _ h => h) (Or.inl ⟨by rfl, ?_⟩) ?_ ?_
    rotate_left
    · intro w'
      go_simp
      with_reducible rfl
    rotate_left
    · simp only [Act.put, List.setIfInBounds_toArray, List.set_cons_zero, List.set_cons_succ, i64_w, i32_w]
      rfl
    refine take_ (i := 5) (N := some 16) (v := ?_) (a' := ?_) #[true, true, true, true, true, true, true, true, false, false, false, false, false, false, false] rfl rfl (by kernel_rfl) (fun _ _ _ h => h) (Or.inl ⟨by rfl, ?_⟩) hHeld ?_ ?_
    rotate_left
    · intro w' s0
      go_simp
      with_reducible rfl
    rotate_left
    · simp only [Act.put, List.setIfInBounds_toArray, List.set_cons_zero, List.set_cons_succ, i64_w, i32_w]
      rfl
    refine one_ (i := 8) (N := none) #[true, true, true, true, true, true, true, true, true, false, false, false, false, false, false] rfl rfl (by kernel_rfl) (by decide) (fun K hK => ?_)
    refine skip_ (w1 := ?_) (by rfl) rfl ?_ ?_
    rotate_left
    · go_simp
      rfl
    refine hK.out _ _ ((far1 hne (by assumption))) (fun hHeld => ?_)
    clear hK K
    refine pure_ (i := 9) (N := some 19) (v := ?_) (a' := ?_) #[true, true, true, true, true, true, true, true, true, true, false, false, false, false, false] rfl rfl (by kernel_rfl) (fun _ _ _ h => h) (Or.inl ⟨by rfl, ?_⟩) ?_ ?_
    rotate_left
    · intro w'
      go_simp
      with_reducible rfl
    rotate_left
    · simp only [Act.put, List.setIfInBounds_toArray, List.set_cons_zero, List.set_cons_succ, i64_w, i32_w]
      rfl
    refine pure_ (i := 10) (N := some 20) (v := ?_) (a' := ?_) #[true, true, true, true, true, true, true, true, true, true, true, false, false, false, false] rfl rfl (by kernel_rfl) (fun _ _ _ h => h) (Or.inl ⟨by rfl, ?_⟩) ?_ ?_
    rotate_left
    · intro w'
      go_simp
      with_reducible rfl
    rotate_left
    · simp only [Act.put, List.setIfInBounds_toArray, List.set_cons_zero, List.set_cons_succ, i64_w, i32_w]
      rfl
    refine one_ (i := 11) (N := none) #[true, true, true, true, true, true, true, true, true, true, true, true, false, false, false] rfl rfl (by kernel_rfl) (by decide) (fun K hK => ?_)
    refine skip_ (w1 := ?_) (by rfl) rfl ?_ ?_
    rotate_left
    · go_simp
      rfl
    refine hK.out _ _ ((far1 hne (by assumption))) (fun hHeld => ?_)
    clear hK K
    refine pure_ (i := 12) (N := some 21) (v := ?_) (a' := ?_) #[true, true, true, true, true, true, true, true, true, true, true, true, true, false, false] rfl rfl (by kernel_rfl) (fun _ _ _ h => h) (Or.inl ⟨by rfl, ?_⟩) ?_ ?_
    rotate_left
    · intro w'
      go_simp
      with_reducible rfl
    rotate_left
    · simp only [Act.put, List.setIfInBounds_toArray, List.set_cons_zero, List.set_cons_succ, i64_w, i32_w]
      rfl
    refine pure_ (i := 13) (N := some 22) (v := ?_) (a' := ?_) #[true, true, true, true, true, true, true, true, true, true, true, true, true, true, false] rfl rfl (by kernel_rfl) (fun _ _ _ h => h) (Or.inl ⟨by rfl, ?_⟩) ?_ ?_
    rotate_left
    · intro w'
      go_simp
      with_reducible rfl
    rotate_left
    · simp only [Act.put, List.setIfInBounds_toArray, List.set_cons_zero, List.set_cons_succ, i64_w, i32_w]
      rfl
    refine one_ (i := 14) (N := none) #[true, true, true, true, true, true, true, true, true, true, true, true, true, true, true] rfl rfl (by kernel_rfl) (by decide) (fun K hK => ?_)
    refine skip_ (w1 := ?_) (by rfl) rfl ?_ ?_
    rotate_left
    · go_simp
      rfl
    refine hK.out _ _ ((far1 hne (by assumption))) (fun hHeld => ?_)
    clear hK K
    refine done_ (by kernel_rfl) ?_
    go_wp2_with fail
    go_end0
    have ha : Keep (fun k => k = P) w (w.alloc (.cells #[.int .i64 k] 50)) := (Keep.refl _ w).alloc _
    have hk := ((ha.trans (kp (P := P) (i := 5) (.bool true))).trans (kp (P := P) (i := 6) (.int .i64 (max n 1)))).trans (kp (P := P) (i := 7) (.int .i64 k))
    refine ⟨rfl, ?_, hk.drew⟩
    have hb := (((H1.out.alloc (.cells #[.int .i64 k] 50)).set_ 5 (.bool true)).set_ 6 (.int .i64 (max n 1))).set_ 7 (.int .i64 k)
    have e : ((max n 1).toNat : Int) = max n 1 := by omega
    exact dk_of (s' := armS s n k) (armed := true) (inn := max n 1) H1.out (by unfold armS; rw [hd]; exact H2.out.1) (by unfold armS; rw [hd]; exact H2.out.2.1) H2.out.2.2.1 hk.drew (by simpa [armS, hd] using hb.drew) (.inl ⟨rfl, by unfold armS; rw [hd]; simp only [Bool.false_eq_true, if_false]; rw [e], by unfold armS; rw [hd]; simp only [Bool.false_eq_true, if_false]; omega⟩) H2.out.2.2.2.1 H2.out.2.2.2.2 HD.out.pF
end Jrn
end Go.Proofs.Ytihgmlcmdpmhhaa
