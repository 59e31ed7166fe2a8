/- The document's size and form of a number: walked. -/
import Derived.Test.YthkhemcbkcoliaaDoorPut
import Derived.Test.YthkhemcbkcoliaaDoorApN
import Derived.Test.YthkhemcbkcoliaaDoorAps
namespace Go.Proofs.YthkhemcbkcoliaaDoor
set_option linter.unusedVariables false
set_option linter.unusedSimpArgs false
namespace Wire
open Go.RowKit Mem Apn
theorem shr_pow (x n : Nat) : (x : Int) / 2 ^ (8 * n) = ((x / 256 ^ n : Nat) : Int) := by
  rw [show (2 : Int) ^ (8 * n) = ((256 ^ n : Nat) : Int) from by rw [Int.pow_mul, Int.natCast_pow]; rfl, Int.natCast_ediv]
theorem div_zero_iff (x n : Nat) (hx : U64 x) (h : 248 ≤ x) (hn : 1 ≤ n) : x / 256 ^ n = 0 ↔ size x ≤ n := by
  obtain ⟨h1, h2⟩ := size_spec x hx
  obtain ⟨h3, h4⟩ := h2 (by omega)
  have hp : 0 < 256 ^ n := Nat.pow_pos (by omega)
  rw [Nat.div_eq_zero_iff_lt hp]
  constructor
  · intro hlt
    rcases Nat.lt_or_ge n (size x) with h5 | h5
    · have := Nat.pow_le_pow_right (n := 256) (by omega) (show n ≤ size x - 1 by omega)
      omega
    · exact h5
  · intro hle
    exact Nat.lt_of_lt_of_le h1 (Nat.pow_le_pow_right (by omega) hle)
set_option maxHeartbeats 1000000 in
set_option maxRecDepth 100000 in
theorem rsize_any (x : Nat) (w : World) (hx : U64 x) (h : 248 ≤ x) : Calls Tryd.prog 71 #[.int .u64 x] w fun e w' => e = .returned (.int .i64 (size x)) ∧ w = w' := by
  have HZ := Held.mk (fun n hn => div_zero_iff x n hx h hn)
  have HS := Held.mk (size_le x hx)
  have HS1 : Held (1 ≤ size x) := ⟨((size_spec x hx).2 (by omega)).1⟩
  clear hx h
  go_enter Tryd.func71, Tryd.ntmps71
  go_wp2_with fail
  go_loopw [3] (fun i wr => ∃ n : Nat, i = .int .i64 n ∧ 1 ≤ n ∧ n ≤ 8 ∧ Held (n ≤ size x) ∧ wr = w) (fun i _ => 8 - (intOf i).toNat)
  case atStart => exact ⟨1, rfl, by omega, by omega, HS1, rfl⟩
  case round =>
    obtain ⟨n, rfl, hn1, hn8, HN, rfl⟩ := hrel
    have hsp := shr_pow x n
    by_cases h8 : n < 8
    · have h8I : (n : Int) < 8 := by omega
      by_cases hz : x / 256 ^ n = 0
      · have he := (HZ.out n hn1).1 hz
        rw [hz] at hsp
        have HE : Held (size x = n) := ⟨by have := HN.out; omega⟩
        clear he HZ HN
        go_wp2
        go_ret
        exact ⟨by rw [HE.out]; rfl, rfl⟩
      · have hne : ¬ size x ≤ n := fun h => hz ((HZ.out n hn1).2 h)
        have HN1 : Held (n + 1 ≤ size x) := ⟨by omega⟩
        generalize x / 256 ^ n = q at *
        have hqI : ¬ (q : Int) = 0 := by omega
        clear hne HN hz
        go_wp2
        go_roundw
        case rel => exact ⟨n + 1, by go_num, by omega, by omega, HN1, by first | rfl | trivial⟩
        case measure => simp [intOf]; omega
    · have h8I : ¬ (n : Int) < 8 := by omega
      have HE : Held (size x = n) := ⟨by have := HN.out; have := HS.out; omega⟩
      go_wp2
      go_ret
      exact ⟨by rw [HE.out]; rfl, rfl⟩
set_option maxHeartbeats 1000000 in
set_option maxRecDepth 100000 in
theorem rput_any (base : Nat) (v : Value) (xs : List Int) (x : Nat) (w : World) (hx : U64 x) (hl : xs.length ≤ 225179981368310)
    (ho : OwnN w base 5 .u8 v xs) (hb : base ≤ w.heap.size) :
    Calls Tryd.prog 51 #[v, .int .u64 x] w fun e w' => ∃ v', e = .returned v' ∧ OwnN w' base 5 .u8 v' (xs ++ form x) ∧ w.grownBy w' v.ownBlock ∧ (v'.ownBlock = v.ownBlock ∨ ∃ b, v'.ownBlock = some b ∧ w.heap.size ≤ b) := by
  by_cases h : x < 248
  · have hI : (x : Int) < 248 := by omega
    go_enter Tryd.func51, Tryd.ntmps51
    go_wp2_with (at_builtin; go_loud (refine app1N base rfl (.tmp 9) (.tmp 12) 23 5 .u8 1 rfl Tryd.underlying23 info_u8 (by decide) v xs _ rfl rfl ho ?c1 ?c2 ?_); (case c1 => omega); (case c2 => omega); intro v1 w1 ho1 hg1 hat1)
    go_ret
    exact ⟨_, rfl, by rw [form, if_pos h]; exact ho1, hg1, hat1⟩
  · have hs := size_le x hx
    have hI : ¬ (x : Int) < 248 := by omega
    have HSz := Held.mk (fun w => rsize_any x w hx (by omega))
    have HF : Held (form x = ((247 + size x : Nat) : Int) :: hi x (size x)) := ⟨by rw [form, if_neg h]⟩
    have hsI : (size x : Int) ≤ 8 := by omega
    generalize size x = n at *
    have hm : ((247 + n : Nat) : Int) = 247 + (n : Int) := by omega
    rw [hm] at HF
    clear hx h hm
    go_enter Tryd.func51, Tryd.ntmps51
    go_wp2_with fail
    refine (HSz.out _).mono ?_
    rintro e w' ⟨rfl, rfl⟩
    go_wp2_with (at_builtin; go_loud (refine app1N base rfl (.tmp 16) (.tmp 20) 23 5 .u8 1 rfl Tryd.underlying23 info_u8 (by decide) v xs _ rfl rfl ho ?c1 ?c2 ?_); (case c1 => omega); (case c2 => omega); intro v1 w1 ho1 hg1 hat1)
    have HO1 := Held.mk ho1
    have HG1 := Held.mk hg1
    have HA1 := Held.mk hat1
    clear ho1 hg1 hat1
    go_loopw [0, 6] (fun c i wr => ∃ (m : Nat) (ys : List Int) (j : Int), m ≤ n ∧ i = .int .i64 j ∧ Held (j = (m : Int) - 1) ∧ ys.length + m = xs.length + 1 + n ∧ OwnN wr base 5 .u8 c ys ∧ Held (ys ++ hi x m = xs ++ form x) ∧ w.grownBy wr v.ownBlock ∧ Held (c.ownBlock = v.ownBlock ∨ ∃ b, c.ownBlock = some b ∧ w.heap.size ≤ b)) (fun _ i _ => (intOf i + 1).toNat)
    case atStart => exact ⟨n, _, _, Nat.le_refl _, rfl, ⟨rfl⟩, by simp, HO1.out, ⟨by rw [HF.out]; simp⟩, HG1.out, HA1⟩
    case round =>
      obtain ⟨m, ys, j, hmn, rfl, hj, hlen, hown, he, hg, hat⟩ := hrel
      by_cases h0 : 0 < m
      · obtain ⟨p, rfl⟩ : ∃ p, m = p + 1 := ⟨m - 1, by omega⟩
        obtain rfl : j = (p : Int) := by have := hj.out; omega
        have hp8 : (p : Int) < 8 := by omega
        have hsp := shr_pow x p
        go_wp2_with (at_builtin; go_loud (refine app1N base rfl (.tmp 28) (.tmp 34) 23 5 .u8 1 rfl Tryd.underlying23 info_u8 (by decide) _ ys _ rfl rfl hown ?c1 ?c2 ?_); (case c1 => (have := hg.size; omega)); (case c2 => omega); intro v2 w2 ho2 hg2 hat2)
        go_roundw
        case rel =>
          refine ⟨p, _, (p : Int) - 1, by omega, by go_num, ⟨rfl⟩, ?_, ho2, ⟨?_⟩, grownBy.next hg hat.out hg2, ⟨grownBy.at_ hg.size hat.out hat2⟩⟩
          · simp <;> omega
          · rw [List.append_assoc]; first | exact he.out | skip
        case measure => simp [intOf] <;> omega
      · obtain rfl : m = 0 := by omega
        obtain rfl : j = -1 := by have := hj.out; omega
        go_wp2
        go_ret
        refine ⟨_, rfl, ?_, hg, hat.out⟩
        have := he.out
        simp only [hi, List.append_nil] at this
        rw [← this]; exact hown
theorem hi4 (x : Nat) (hx : x < 4294967296) : hi x 4 = [(x : Int) / 16777216, (x : Int) / 65536 % 256, (x : Int) / 256 % 256, (x : Int) % 256] := by
  simp only [hi, List.cons.injEq, and_true]
  refine ⟨?_, ?_, ?_, ?_⟩ <;> omega
set_option maxHeartbeats 1000000 in
set_option maxRecDepth 100000 in
theorem rputsum_any (base : Nat) (v : Value) (xs : List Int) (x : Nat) (w : World) (hx : x < 4294967296) (hl : xs.length ≤ 225179981368310)
    (ho : OwnN w base 5 .u8 v xs) (hb : base ≤ w.heap.size) :
    Calls Tryd.prog 52 #[v, .int .u32 x] w fun e w' => ∃ v', e = .returned v' ∧ OwnN w' base 5 .u8 v' (xs ++ hi x 4) ∧ w.grownBy w' v.ownBlock := by
  have hxI : (x : Int) < 4294967296 := by omega
  have HO := Held.mk ho
  have HB := Held.mk hb
  have HOa : Held (OwnN (w.alloc (.cells #[.int .u8 ((x : Int) / 16777216), .int .u8 ((x : Int) / 65536 % 256), .int .u8 ((x : Int) / 256 % 256), .int .u8 ((x : Int) % 256)] 5)) base 5 .u8 v xs) := ⟨World.ownsRow.alloc ho _⟩
  have HRa : Held (RdN (w.alloc (.cells #[.int .u8 ((x : Int) / 16777216), .int .u8 ((x : Int) / 65536 % 256), .int .u8 ((x : Int) / 256 % 256), .int .u8 ((x : Int) % 256)] 5)) (fun _ => True) .u8 (some ⟨w.heap.size, 0, none⟩) 4 (hi x 4)) := ⟨by
    rw [hi4 x hx]
    exact (Aps.rd_lit w (nums .u8 [(x : Int) / 16777216, (x : Int) / 65536 % 256, (x : Int) / 256 % 256, (x : Int) % 256]) 1 4 5 rfl).mono (fun _ _ => trivial)⟩
  have HCa : Held ((xs.length + 4 + (xs.length + 4) / 4 + 192) * 1 ≤ 281474976710656) := ⟨by omega⟩
  have HBa : Held (base ≤ (w.alloc (.cells #[.int .u8 ((x : Int) / 16777216), .int .u8 ((x : Int) / 65536 % 256), .int .u8 ((x : Int) / 256 % 256), .int .u8 ((x : Int) % 256)] 5)).heap.size) := ⟨by simp; omega⟩
  clear hx ho hb hl
  go_enter Tryd.func52, Tryd.ntmps52
  go_wp2_with ((at_builtin; go_loud (refine appN base rfl (.tmp 5) (.tmp 17) 23 5 .u8 1 rfl Tryd.underlying23 info_u8 (by decide) v xs rfl HOa.out (fun _ => True) (some ⟨w.heap.size, 0, none⟩) 4 4 (hi x 4) rfl HRa.out HCa.out HBa.out ?_)); (intro v2 w2 ho2 hg2 hat2); (have HO2 := Held.mk ho2); (have HG2 := Held.mk hg2); (clear ho2 hg2 hat2))
  go_ret
  exact ⟨_, rfl, HO2.out, World.grownBy.trans (World.grownBy_alloc w _ _) HG2.out⟩
end Wire
end Go.Proofs.YthkhemcbkcoliaaDoor
