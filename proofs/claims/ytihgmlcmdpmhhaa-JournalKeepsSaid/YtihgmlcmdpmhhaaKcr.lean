/- CopyRecords: walked. A disk, a journal on it, and rows of bytes beside them. -/
import Derived.Test.YtihgmlcmdpmhhaaKpa
import Derived.Test.YtihgmlcmdpmhhaaCpy
namespace Go.Proofs.Ytihgmlcmdpmhhaa
set_option linter.unusedVariables false
set_option linter.unusedSimpArgs false
namespace Jrn
open Go.RowKit Mem Apn Wire Aps AptBytes
set_option maxHeartbeats 4000000 in
set_option maxRecDepth 100000 in
theorem copyrec_any (ok : Nat → Prop) (A : Option Addr) (n c : Nat) (xs : List (List Int)) (w : World) (hr : RdR w ok A n xs) (hc : n ≤ c) (hn : n ≤ 1000000000) (hx : ∀ r ∈ xs, r.length ≤ 65536) :
    Calls Try.prog 16 #[.slice A n c] w fun e w' => ∃ v, e = .returned v ∧ Rows w' w.heap.size v xs ∧ Below w.heap.size w w' := by
  have HLn := Held.mk hr.len
  have HR := Held.mk hr
  have HX := Held.mk hx
  clear hr hx
  go_enter Try.func16, Try.ntmps16
  go_wp2_with fail
  go_loopw [3, 4] (fun v i wr => ∃ (k : Nat) (L : List (List Int)), i = .int .i64 k ∧ k ≤ n ∧ Held (L = xs.take k) ∧ Held (L.length = k) ∧ Held (Rows wr w.heap.size v L) ∧ Held (Below w.heap.size w wr)) (fun _ i _ => n - (intOf i).toNat)
  case atStart => exact ⟨0, [], rfl, by omega, ⟨by simp⟩, ⟨rfl⟩, ⟨Rows.nil _ _⟩, ⟨Below.refl _ _⟩⟩
  case round =>
    obtain ⟨k, L, rfl, hk, HS, HL, HW, HBe⟩ := hrel
    obtain ⟨Av, cv, rfl, hcv⟩ := HW.out.slc
    rw [HL.out] at HW ⊢
    by_cases hkn : k < n
    · have hkI : (k : Int) < (n : Int) := by omega
      obtain ⟨ad, a1, c1, rfl, hcl0, hc1, hrd0⟩ := HR.out.at_ hkn
      have hcl := (Keep.of_below HBe.out (fun _ => False)).cell hcl0 (fun h => h)
      have hl5 : (xs.getD k []).length ≤ 65536 := by
        rw [List.getD_eq_getElem?_getD, List.getElem?_eq_getElem (by rw [HLn.out]; exact hkn)]
        exact HX.out _ (List.getElem_mem _)
      have htk : xs.take (k + 1) = xs.take k ++ [xs.getD k []] := take_getD xs k [] (by rw [HLn.out]; exact hkn)
      obtain ⟨r, hr⟩ : ∃ r, xs.getD k [] = r := ⟨_, rfl⟩
      rw [hr] at hcl hc1 hrd0 hl5 htk
      obtain ⟨l, hl⟩ : ∃ l, r.length = l := ⟨_, rfl⟩
      rw [hl] at hcl hc1 hrd0 hl5
      have HCp := Held.mk (copy_any _ a1 l c1 r wr (hrd0.keep (Keep.of_below HBe.out (fun _ => False)) (fun _ _ h => h)) (by omega))
      have HTk := Held.mk htk
      have Hl := Held.mk hl
      clear hcl0 hrd0 hc1 htk hr hl
      go_wp2_with fail
      refine HCp.out.mono ?_
      rintro e w1 ⟨u, rfl, ho, hb1⟩
      obtain ⟨Au, cu, rfl, hcu⟩ := own_slc ho
      have hba : Below wr.heap.size wr (w1.alloc (.cells #[.slice Au r.length cu] 23)) := hb1.alloc hb1.size _
      have hoa := ((Keep.refl (fun _ => False) w1).alloc (.cells #[.slice Au r.length cu] 23)).own ho (fun _ _ h => h)
      obtain ⟨cells, hcs, hnx⟩ := HW.out.snoc HBe.out.size hba hoa
      rw [HL.out] at hcs hnx
      have Hcs := Held.mk hcs
      have Hnx := Held.mk hnx
      have HRd := Held.mk (rd_new w1 [.slice Au r.length cu] 1 23 rfl)
      have HC3 : Held (((k + 1) + (k + 1) / 4 + 192) * 24 ≤ 281474976710656) := ⟨by omega⟩
      have HC4 : Held (w.heap.size ≤ (w1.alloc (.cells #[.slice Au r.length cu] 23)).heap.size) := ⟨Nat.le_trans HBe.out.size hba.size⟩
      have HBa := Held.mk (HBe.out.trans (hba.mono HBe.out.size))
      clear ho hb1 hba hoa hcs hnx HCp
      go_wp2_with ((at_builtin; (refine Mem.appS _ w.heap.size rfl (.tmp 17) (.tmp 19) 22 23 (.slice none 0 0) 1 24 rfl Try.underlying22 info_rows rfl (by decide) (by decide) _ k cells rfl Hcs.out (fun _ => True) (some ⟨w1.heap.size, 0, none⟩) 1 1 [.slice Au r.length cu] rfl HRd.out (by simp [Value.oneCell']) HC3.out HC4.out ?_)); (intro v2 w3 ho3 hg3 hat3); (have HN3 := Held.mk (Hnx.out _ _ ho3 hg3)); (have HG3 := Held.mk (Keep.of_grown hg3)); (clear ho3 hg3 hat3))
      go_roundw
      case rel => exact ⟨k + 1, L ++ [r], by go_num, by omega, ⟨by rw [HTk.out, HS.out]⟩, ⟨by rw [List.length_append, HL.out]; rfl⟩, HN3, ⟨((Keep.of_below HBa.out (fun k => w.heap.size ≤ k)).then HG3.out (fun i _ e => HW.out.ge i e)).to_below (fun i hi h => by omega)⟩⟩
      case measure => simp [intOf]; omega
    · have hkI : ¬ (k : Int) < (n : Int) := by omega
      have HEq : Held (L = xs) := ⟨by rw [HS.out, List.take_of_length_le (by rw [HLn.out]; omega)]⟩
      go_wp2_with fail
      go_ret
      rw [← HEq.out]
      exact ⟨_, rfl, HW.out, HBe.out⟩
/-- A row of rows of bytes: its own block is none of F and none of G, its elements lie in G. -/
structure Al (b : Nat) (w : World) (F G : Nat → Prop) (v : Value) (all : List (List Int)) : Prop where
  ex : ∃ V : Nat → Value, w.ownsW b 23 1 v all.length ((List.range all.length).map V) ∧ (∀ k, v.ownBlock = some k → ¬ F k ∧ ¬ G k) ∧
    ∀ j, j < all.length → ∃ a c, V j = .slice a (all.getD j []).length c ∧ (all.getD j []).length ≤ c ∧ RdN w G .u8 a (all.getD j []).length (all.getD j [])
theorem Al.slc {b : Nat} {w : World} {F G : Nat → Prop} {v : Value} {all : List (List Int)} (h : Al b w F G v all) : ∃ A c, v = .slice A all.length c ∧ all.length ≤ c := by
  obtain ⟨V, h1, _⟩ := h.ex
  exact own_slc h1
theorem Al.rd {b : Nat} {w : World} {F G : Nat → Prop} {A : Option Addr} {n c : Nat} {all : List (List Int)} (h : Al b w F G (.slice A n c) all) (hn : all.length = n) : RdR w (fun _ => True) A n all := by
  obtain ⟨V, h1, h2, h3⟩ := h.ex
  rw [hn] at h1
  obtain ⟨A', c', e, hc, hr⟩ := RdV.of_own h1
  simp only [Value.slice.injEq] at e
  obtain ⟨rfl, -, rfl⟩ := e
  refine ⟨hn, V, RdV.mono hr (fun _ _ => trivial), fun j hj => ?_⟩
  obtain ⟨a, c, e, hc, hr⟩ := h3 j (by omega)
  exact ⟨a, c, e, hc, RdV.mono hr (fun _ _ => trivial)⟩
theorem Al.keep {b : Nat} {w w' : World} {F F' G S : Nat → Prop} {v : Value} {all : List (List Int)} (h : Al b w F G v all) (hk : Keep S w w') (hS : ∀ k, S k → F k ∨ (w.heap.size ≤ k)) (hFG : ∀ k, F k → ¬ G k) (hG : ∀ k, G k → k < w.heap.size) (hF : ∀ k, F' k → F k ∨ w.heap.size ≤ k) : Al b w' F' G v all := by
  obtain ⟨V, h1, h2, h3⟩ := h.ex
  refine ⟨V, hk.own h1 (fun k hk1 hk2 => ?_), fun k hk1 => ⟨fun hf => ?_, (h2 k hk1).2⟩, fun j hj => ?_⟩
  · have := own_lt h1 k hk1
    rcases hS k hk2 with h | h
    · exact (h2 k hk1).1 h
    · omega
  · have := own_lt h1 k hk1
    rcases hF k hf with h | h
    · exact (h2 k hk1).1 h
    · omega
  · obtain ⟨a, c, e, hc, hr⟩ := h3 j hj
    exact ⟨a, c, e, hc, hr.keep hk (fun k hg hs => by
      rcases hS k hs with h | h
      · exact hFG k h hg
      · have := hG k hg; omega)⟩
/-- A disk, a journal on it, a row of rows; G is what is kept. -/
structure Kp (b : Nat) (G : Nat → Prop) (w : World) (J P : Nat) (s : DS) (j : JS) (v : Value) (all : List (List Int)) : Prop where
  ex : ∃ F, Dk w F P s ∧ Jk w F J P j ∧ (∀ k, F k ∨ k = J → b ≤ k ∧ k < w.heap.size ∧ ¬ G k) ∧ Al b w (fun k => F k ∨ k = J) G v all
  hG : ∀ k, G k → k < w.heap.size
  hb : ∀ k, k < b → G k
/-- The same without a journal. -/
structure Dp (b : Nat) (G : Nat → Prop) (w : World) (P : Nat) (s : DS) (v : Value) (all : List (List Int)) : Prop where
  ex : ∃ F, Dk w F P s ∧ (∀ k, F k → b ≤ k ∧ k < w.heap.size ∧ ¬ G k) ∧ Al b w F G v all
  hG : ∀ k, G k → k < w.heap.size
  hb : ∀ k, k < b → G k
/-- What an operation keeps. -/
def Kg (G : Nat → Prop) (w w' : World) : Prop := Keep (fun k => ¬ G k) w w'
theorem Kg.trans {G : Nat → Prop} {w w1 w2 : World} (h : Kg G w w1) (k : Kg G w1 w2) : Kg G w w2 := Keep.trans h k
theorem Kg.of_below {G : Nat → Prop} {w w' : World} (h : Below w.heap.size w w') : Kg G w w' := Keep.of_below h _
theorem Kp.dp {b : Nat} {G : Nat → Prop} {w : World} {J P : Nat} {s : DS} {j : JS} {v : Value} {all : List (List Int)} (h : Kp b G w J P s j v all) : Dp b G w P s v all := by
  obtain ⟨F, h1, h2, h3, h4⟩ := h.ex
  refine ⟨⟨F, h1, fun k hk => h3 k (.inl hk), ?_⟩, h.hG, h.hb⟩
  obtain ⟨V, a, b', c⟩ := h4.ex
  exact ⟨V, a, fun k hk => ⟨fun hf => (b' k hk).1 (.inl hf), (b' k hk).2⟩, c⟩
/-- Behind an operation of the journal. -/
theorem kp_after {b : Nat} {F F' G : Nat → Prop} {w w' : World} {J P : Nat} {s' : DS} {j' : JS} {v : Value} {all : List (List Int)} (h3 : ∀ k, F k ∨ k = J → b ≤ k ∧ k < w.heap.size ∧ ¬ G k) (h4 : Al b w (fun k => F k ∨ k = J) G v all) (hG : ∀ k, G k → k < w.heap.size) (hb : ∀ k, k < b → G k)
    (k1 : Dk w' F' P s') (k2 : Jk w' F' J P j') (k3 : ∀ k, F' k → F k ∨ (w.heap.size ≤ k ∧ k < w'.heap.size)) (k4 : Keep (fun k => F k ∨ k = J) w w') : Kp b G w' J P s' j' v all ∧ Kg G w w' := by
  have hs := k4.size
  have hbJ := h3 J (.inr rfl)
  refine ⟨⟨⟨F', k1, k2, fun k hk => ?_, ?_⟩, fun k hk => Nat.lt_of_lt_of_le (hG k hk) hs, hb⟩, k4.mono (fun i _ hi => (h3 i hi).2.2)⟩
  · rcases hk with hk | hk
    · rcases k3 k hk with h5 | h5
      · have := h3 k (.inl h5); exact ⟨this.1, by omega, this.2.2⟩
      · exact ⟨by omega, h5.2, fun hg => by have := hG k hg; omega⟩
    · have := h3 k (.inr hk); exact ⟨this.1, by omega, this.2.2⟩
  · refine h4.keep k4 (fun k hk => .inl hk) (fun k hk => (h3 k hk).2.2) hG (fun k hk => ?_)
    rcases hk with hk | hk
    · rcases k3 k hk with h5 | h5
      · exact .inl (.inl h5)
      · exact .inr h5.1
    · exact .inl (.inr hk)
theorem Kp.below {b : Nat} {G : Nat → Prop} {w w' : World} {J P : Nat} {s : DS} {j : JS} {v : Value} {all : List (List Int)} (h : Kp b G w J P s j v all) (hb : Below w.heap.size w w') : Kp b G w' J P s j v all := by
  obtain ⟨F, h1, h2, h3, h4⟩ := h.ex
  exact (kp_after h3 h4 h.hG h.hb (h1.below hb) (h2.below hb) (fun k hk => .inl hk) (Keep.of_below hb _)).1
theorem Dp.below {b : Nat} {G : Nat → Prop} {w w' : World} {P : Nat} {s : DS} {v : Value} {all : List (List Int)} (h : Dp b G w P s v all) (hb : Below w.heap.size w w') : Dp b G w' P s v all := by
  obtain ⟨F, h1, h3, h4⟩ := h.ex
  have hs := hb.size
  refine ⟨⟨F, h1.below hb, fun k hk => ?_, ?_⟩, fun k hk => Nat.lt_of_lt_of_le (h.hG k hk) hs, h.hb⟩
  · have := h3 k hk; exact ⟨this.1, by omega, this.2.2⟩
  · exact h4.keep (Keep.of_below hb (fun _ => False)) (fun _ h => h.elim) (fun k hk => (h3 k hk).2.2) h.hG (fun k hk => .inl hk)
theorem kp_append (b J P : Nat) (G : Nat → Prop) (s : DS) (j : JS) (v : Value) (all : List (List Int)) (ok : Nat → Prop) (A : Option Addr) (n c : Nat) (r : List Int) (w : World) (h : Kp b G w J P s j v all) (hs : s.Good) (hr : RdN w ok .u8 A n r) (hb : Byt r) (hn : n ≤ 140737488355328) (hl : j.last ≤ 4611686018427387904) :
    Calls Try.prog 18 #[.pointer (some ⟨J, 0, none⟩), .slice A n c] w fun e w' => e = .returned (.tuple #[.int .i64 (appS s j r).2.2.1, (appS s j r).2.2.2]) ∧ Kp b G w' J P (appS s j r).1 (appS s j r).2.1 v all ∧ Kg G w w' := by
  obtain ⟨F, h1, h2, h3, h4⟩ := h.ex
  refine (append_any F J P s j ok A n c r w h1 h2 hs hr hb (fun k hk => (h3 k (.inl hk)).2.1) hn hl).mono ?_
  rintro e w' ⟨he, F', hD, hJ, hF, hK⟩
  exact ⟨he, kp_after h3 h4 h.hG h.hb hD hJ hF hK⟩
theorem kp_sync (b J P : Nat) (G : Nat → Prop) (s : DS) (j : JS) (v : Value) (all : List (List Int)) (w : World) (h : Kp b G w J P s j v all) (hs : s.Good) :
    Calls Try.prog 19 #[.pointer (some ⟨J, 0, none⟩)] w fun e w' => e = .returned (.tuple #[.int .i64 (jsyncS s j).2.2.1, (jsyncS s j).2.2.2]) ∧ Kp b G w' J P (jsyncS s j).1 (jsyncS s j).2.1 v all ∧ Kg G w w' := by
  obtain ⟨F, h1, h2, h3, h4⟩ := h.ex
  refine (jsync_any F J P s j w h1 h2 hs (fun k hk => (h3 k (.inl hk)).2.1)).mono ?_
  rintro e w' ⟨he, F', hD, hJ, hF, hK⟩
  exact ⟨he, kp_after h3 h4 h.hG h.hb hD hJ hF hK⟩
theorem kp_crash (b J P : Nat) (G : Nat → Prop) (s : DS) (j : JS) (v : Value) (all : List (List Int)) (k : Int) (w : World) (h : Kp b G w J P s j v all) (hs : s.Good) :
    Calls Try.prog 21 #[.pointer (some ⟨P, 0, none⟩), .agg #[.int .i64 k]] w fun e w' => e = .returned (.tuple #[]) ∧ Kp b G w' J P (crashS s k) j v all ∧ Kg G w w' := by
  obtain ⟨F, h1, h2, h3, h4⟩ := h.ex
  refine (crash_any F P s k w h1 hs (fun k hk => (h3 k (.inl hk)).2.1)).mono ?_
  rintro e w' ⟨he, hD, hK⟩
  exact ⟨he, kp_after h3 h4 h.hG h.hb hD (h2.next hK) (fun k hk => hk) (hK.mono (fun _ _ h => .inl h))⟩
theorem kp_revive (b J P : Nat) (G : Nat → Prop) (s : DS) (j : JS) (v : Value) (all : List (List Int)) (w : World) (h : Kp b G w J P s j v all) :
    Calls Try.prog 20 #[.pointer (some ⟨P, 0, none⟩)] w fun e w' => e = .returned (.tuple #[]) ∧ Kp b G w' J P (reviveS s) j v all ∧ Kg G w w' := by
  obtain ⟨F, h1, h2, h3, h4⟩ := h.ex
  refine (revive_any F P s w h1).mono ?_
  rintro e w' ⟨he, hD, hK⟩
  have hP : ∀ k, k = P → F k := fun k e => by subst e; exact h1.pF
  exact ⟨he, kp_after h3 h4 h.hG h.hb hD (h2.keep hK hP) (fun k hk => .inl hk) (hK.mono (fun i _ h => .inl (hP i h)))⟩
theorem kp_arm (b J P : Nat) (G : Nat → Prop) (s : DS) (j : JS) (v : Value) (all : List (List Int)) (n k : Int) (w : World) (h : Kp b G w J P s j v all) (hn : -9223372036854775808 ≤ n ∧ n ≤ 9223372036854775807) :
    Calls Try.prog 17 #[.pointer (some ⟨P, 0, none⟩), .int .i64 n, .agg #[.int .i64 k]] w fun e w' => e = .returned (.tuple #[]) ∧ Kp b G w' J P (armS s n k) j v all ∧ Kg G w w' := by
  obtain ⟨F, h1, h2, h3, h4⟩ := h.ex
  refine (arm_any F P s n k w h1 hn).mono ?_
  rintro e w' ⟨he, hD, hK⟩
  have hP : ∀ k, k = P → F k := fun k e => by subst e; exact h1.pF
  exact ⟨he, kp_after h3 h4 h.hG h.hb hD (h2.keep hK hP) (fun k hk => .inl hk) (hK.mono (fun i _ h => .inl (hP i h)))⟩
/-- One more row: what is appended lies in G. -/
theorem kp_push {b J P : Nat} {G : Nat → Prop} {s : DS} {j : JS} {v : Value} {all : List (List Int)} {r : List Int} {a : Option Addr} {c : Nat} {w1 : World} (h : Kp b G w1 J P s j v all) (hbw : b ≤ w1.heap.size) (hr : RdN w1 G .u8 a r.length r) (hc : r.length ≤ c) :
    ∃ cells : List Value, w1.ownsW b 23 1 v all.length cells ∧ ∀ v' w2, w2.ownsW b 23 1 v' (all.length + 1) (cells ++ [.slice a r.length c]) → w1.grownBy w2 v.ownBlock → (v'.ownBlock = v.ownBlock ∨ ∃ b, v'.ownBlock = some b ∧ w1.heap.size ≤ b) →
      Kp b G w2 J P s j v' (all ++ [r]) ∧ Kg G w1 w2 := by
  obtain ⟨F, h1, h2, h3, h4⟩ := h.ex
  obtain ⟨V, a1, a2, a3⟩ := h4.ex
  refine ⟨(List.range all.length).map V, a1, fun v' w2 ho hg hat => ?_⟩
  have hk := Keep.of_grown hg
  have hs := hk.size
  have hkD : Dk w2 F P s := h1.keep_ hk (fun k hf _ e => (a2 k e).1 (.inl hf))
  have hkJ : Jk w2 F J P j := by
    obtain ⟨bd, ba, b1, b2, b3, b4, b5⟩ := h2.ex
    exact ⟨⟨bd, ba, b1.keep hk (fun e => own_blk_ne a1 b1 (by decide) e), b2.keep hk (fun e => own_blk_ne a1 b2 (by decide) e), b3.keep hk (fun e => own_blk_ne a1 b3 (by decide) e), b4, b5⟩, h2.jF⟩
  refine ⟨⟨⟨F, hkD, hkJ, fun k hk => by have := h3 k hk; exact ⟨this.1, by omega, this.2.2⟩, ⟨fun i => if i = all.length then .slice a r.length c else V i, ?_, ?_, ?_⟩⟩, fun k hk => Nat.lt_of_lt_of_le (h.hG k hk) hs, h.hb⟩, ?_⟩
  · have e1 : (List.range (all ++ [r]).length).map (fun i => if i = all.length then Value.slice a r.length c else V i) = (List.range all.length).map V ++ [.slice a r.length c] := by
      rw [List.length_append, List.length_singleton, List.range_succ, List.map_append, List.map_singleton, if_pos rfl]
      congr 1
      apply List.map_congr_left
      intro i hi
      rw [List.mem_range] at hi
      rw [if_neg (by omega)]
    rw [e1, List.length_append]
    exact ho
  · intro k hk
    rcases hat with e | ⟨b', e, hb'⟩
    · rw [e] at hk; exact a2 k hk
    · have : k = b' := by rw [e] at hk; exact (Option.some.inj hk).symm
      subst this
      exact ⟨fun hf => by have := (h3 k hf).2.1; omega, fun hg => by have := h.hG k hg; omega⟩
  · intro i hi
    rw [List.length_append, List.length_singleton] at hi
    by_cases he : i = all.length
    · subst he
      have e1 : (all ++ [r]).getD all.length [] = r := by rw [List.getD_eq_getElem?_getD, List.getElem?_append_right (Nat.le_refl _)]; simp
      rw [e1]
      exact ⟨a, c, by simp only [if_true], hc, hr.keep hk (fun k hg e => (a2 k e).2 hg)⟩
    · have e1 : (all ++ [r]).getD i [] = all.getD i [] := by rw [List.getD_eq_getElem?_getD, List.getElem?_append_left (by omega), ← List.getD_eq_getElem?_getD]
      rw [e1]
      obtain ⟨a', c', e', hc', hr'⟩ := a3 i (by omega)
      exact ⟨a', c', by simp only [if_neg he]; exact e', hc', hr'.keep hk (fun k hg e => (a2 k e).2 hg)⟩
  · exact hk.mono (fun i _ e => (a2 i e).2)
end Jrn
end Go.Proofs.Ytihgmlcmdpmhhaa
