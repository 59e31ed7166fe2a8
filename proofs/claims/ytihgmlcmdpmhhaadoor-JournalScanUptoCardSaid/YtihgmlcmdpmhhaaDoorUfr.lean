/- The document's size and form of a number: walked. -/
import Derived.Test.YtihgmlcmdpmhhaaDoorApb
import Derived.Test.YtihgmlcmdpmhhaaDoorApN
import Derived.Test.YtihgmlcmdpmhhaaDoorRdr
import Derived.Test.YtihgmlcmdpmhhaaDoorProg
import Derived.Laws.BitsAllLaws
import Derived.Laws.Rows
import Derived.Outline
import Derived.Deep.RegionHeldLaw
import Derived.Deep.RegionHeld3
namespace Go.Proofs.YtihgmlcmdpmhhaaDoor
set_option linter.unusedVariables false
set_option linter.unusedSimpArgs false
namespace Wire
open Go.RowKit Mem Apn
theorem shr_pow (x n : Nat) : (x : Int) / 2 ^ (8 * n) = ((x / 256 ^ n : Nat) : Int) := by
  rw [show (2 : Int) ^ (8 * n) = ((256 ^ n : Nat) : Int) from by rw [Int.pow_mul, Int.natCast_pow]; rfl, Int.natCast_ediv]
theorem div_zero_iff (x n : Nat) (hx : U64 x) (h : 248 ≤ x) (hn : 1 ≤ n) : x / 256 ^ n = 0 ↔ size x ≤ n := by
  obtain ⟨h1, h2⟩ := size_spec x hx
  obtain ⟨h3, h4⟩ := h2 (by omega)
  have hp : 0 < 256 ^ n := Nat.pow_pos (by omega)
  rw [Nat.div_eq_zero_iff_lt hp]
  constructor
  · intro hlt
    rcases Nat.lt_or_ge n (size x) with h5 | h5
    · have := Nat.pow_le_pow_right (n := 256) (by omega) (show n ≤ size x - 1 by omega)
      omega
    · exact h5
  · intro hle
    exact Nat.lt_of_lt_of_le h1 (Nat.pow_le_pow_right (by omega) hle)
set_option maxHeartbeats 1000000 in
set_option maxRecDepth 100000 in
theorem rsize_any (x : Nat) (w : World) (hx : U64 x) (h : 248 ≤ x) : Calls Tryd.prog 70 #[.int .u64 x] w fun e w' => e = .returned (.int .i64 (size x)) ∧ w = w' := by
  have HZ := Held.mk (fun n hn => div_zero_iff x n hx h hn)
  have HS := Held.mk (size_le x hx)
  have HS1 : Held (1 ≤ size x) := ⟨((size_spec x hx).2 (by omega)).1⟩
  clear hx h
  go_enter Tryd.func70, Tryd.ntmps70
  go_wp2_with fail
  go_loopw [3] (fun i wr => ∃ n : Nat, i = .int .i64 n ∧ 1 ≤ n ∧ n ≤ 8 ∧ Held (n ≤ size x) ∧ wr = w) (fun i _ => 8 - (intOf i).toNat)
  case atStart => exact ⟨1, rfl, by omega, by omega, HS1, rfl⟩
  case round =>
    obtain ⟨n, rfl, hn1, hn8, HN, rfl⟩ := hrel
    have hsp := shr_pow x n
    by_cases h8 : n < 8
    · have h8I : (n : Int) < 8 := by omega
      by_cases hz : x / 256 ^ n = 0
      · have he := (HZ.out n hn1).1 hz
        rw [hz] at hsp
        have HE : Held (size x = n) := ⟨by have := HN.out; omega⟩
        clear he HZ HN
        go_wp2
        go_ret
        exact ⟨by rw [HE.out]; rfl, rfl⟩
      · have hne : ¬ size x ≤ n := fun h => hz ((HZ.out n hn1).2 h)
        have HN1 : Held (n + 1 ≤ size x) := ⟨by omega⟩
        generalize x / 256 ^ n = q at *
        have hqI : ¬ (q : Int) = 0 := by omega
        clear hne HN hz
        go_wp2
        go_roundw
        case rel => exact ⟨n + 1, by go_num, by omega, by omega, HN1, by first | rfl | trivial⟩
        case measure => simp [intOf]; omega
    · have h8I : ¬ (n : Int) < 8 := by omega
      have HE : Held (size x = n) := ⟨by have := HN.out; have := HS.out; omega⟩
      go_wp2
      go_ret
      exact ⟨by rw [HE.out]; rfl, rfl⟩
theorem hi4 (x : Nat) (hx : x < 4294967296) : hi x 4 = [(x : Int) / 16777216, (x : Int) / 65536 % 256, (x : Int) / 256 % 256, (x : Int) % 256] := by
  simp only [hi, List.cons.injEq, and_true]
  refine ⟨?_, ?_, ?_, ?_⟩ <;> omega
set_option maxHeartbeats 1000000 in
set_option maxRecDepth 100000 in
theorem rputsum_any (base : Nat) (v : Value) (xs : List Int) (x : Nat) (w : World) (hx : x < 4294967296) (hl : xs.length ≤ 225179981368310)
    (ho : OwnN w base 5 .u8 v xs) (hb : base ≤ w.heap.size) :
    Calls Tryd.prog 49 #[v, .int .u32 x] w fun e w' => ∃ v', e = .returned v' ∧ OwnN w' base 5 .u8 v' (xs ++ hi x 4) ∧ w.grownBy w' v.ownBlock := by
  have hxI : (x : Int) < 4294967296 := by omega
  have HO := Held.mk ho
  have HB := Held.mk hb
  have HOa : Held (OwnN (w.alloc (.cells #[.int .u8 ((x : Int) / 16777216), .int .u8 ((x : Int) / 65536 % 256), .int .u8 ((x : Int) / 256 % 256), .int .u8 ((x : Int) % 256)] 5)) base 5 .u8 v xs) := ⟨World.ownsW.alloc ho _⟩
  have HRa : Held (RdN (w.alloc (.cells #[.int .u8 ((x : Int) / 16777216), .int .u8 ((x : Int) / 65536 % 256), .int .u8 ((x : Int) / 256 % 256), .int .u8 ((x : Int) % 256)] 5)) (fun _ => True) .u8 (some ⟨w.heap.size, 0, none⟩) 4 (hi x 4)) := ⟨by
    rw [hi4 x hx]
    exact (Aps.rd_lit w (nums .u8 [(x : Int) / 16777216, (x : Int) / 65536 % 256, (x : Int) / 256 % 256, (x : Int) % 256]) 1 4 5 rfl).mono (fun _ _ => trivial)⟩
  have HCa : Held ((xs.length + 4 + (xs.length + 4) / 4 + 192) * 1 ≤ 281474976710656) := ⟨by omega⟩
  have HBa : Held (base ≤ (w.alloc (.cells #[.int .u8 ((x : Int) / 16777216), .int .u8 ((x : Int) / 65536 % 256), .int .u8 ((x : Int) / 256 % 256), .int .u8 ((x : Int) % 256)] 5)).heap.size) := ⟨by simp; omega⟩
  clear hx ho hb hl
  go_enter Tryd.func49, Tryd.ntmps49
  go_wp2_with ((at_builtin; go_loud (refine appN base rfl (.tmp 5) (.tmp 17) 22 5 .u8 1 rfl Tryd.underlying22 info_u8 (by decide) v xs rfl HOa.out (fun _ => True) (some ⟨w.heap.size, 0, none⟩) 4 4 (hi x 4) rfl HRa.out HCa.out HBa.out ?_)); (intro v2 w2 ho2 hg2 hat2); (have HO2 := Held.mk ho2); (have HG2 := Held.mk hg2); (clear ho2 hg2 hat2))
  go_ret
  exact ⟨_, rfl, HO2.out, World.grownBy.trans (World.grownBy_alloc w _ _) HG2.out⟩
end Wire
end Go.Proofs.YtihgmlcmdpmhhaaDoor
/- The document's number at the front of bytes: walked. -/
namespace Go.Proofs.YtihgmlcmdpmhhaaDoor
set_option linter.unusedVariables false
set_option linter.unusedSimpArgs false
namespace Wire
open Go.RowKit Mem Apn
def Er.code : Er → Int
  | .ok => 0
  | .no k => k
  | .ref _ k => k
def numR (r : Nat × Nat × Er) : Value := .tuple #[.int .u64 r.1, .int .i64 r.2.1, .int .i64 r.2.2.code]
theorem size_bits (X m : Nat) (hX : X < 256 ^ m) (hm : 1 ≤ m) (hm8 : m ≤ 8) : Lib.bitLen X ≤ 8 * (m - 1) ↔ ¬ size X = m := by
  have h1 : Lib.bitLen X ≤ 8 * m := Lib.bitLen_le X (8 * m) (by omega) (by rw [Nat.pow_mul]; exact hX)
  unfold size
  omega
set_option maxHeartbeats 2000000 in
set_option maxRecDepth 100000 in
theorem runum_any (ok : Nat → Prop) (A : Option Addr) (n c : Nat) (xs : List Int) (w : World) (hr : RdN w ok .u8 A n xs) (hl : n ≤ 281474976710656) (hb : Byt xs) :
    Calls Tryd.prog 47 #[.slice A n c] w fun e w' => e = .returned (numR (num xs)) ∧ w = w' := by
  have hlen := Held.mk hr.len
  have hlI : (n : Int) ≤ 281474976710656 := by omega
  clear hl
  cases xs with
  | nil =>
    obtain rfl : n = 0 := by simpa using hlen.out.symm
    go_enter Tryd.func47, Tryd.ntmps47
    go_wp2
    go_ret3
    exact ⟨rfl, rfl⟩
  | cons x xs =>
    have hx := hb.head
    have hpos : 0 < n := by have := hlen.out; simp at this; omega
    obtain ⟨ad, rfl, hc0⟩ := hr.at_ hpos
    have h0 : ((n : Int) == 0) = false := beq_eq_false_iff_ne.2 (by omega)
    have hc0 : w.cell? ad = some (.int .u8 x) := by simpa [Addr.add] using hc0
    have Hr := Held.mk hr
    have Hb := Held.mk hb
    clear hr hb
    by_cases h8 : x < 248
    · have hfin : Held (num (x :: xs) = (x.toNat, 1, .ok)) := ⟨by rw [num_cons, if_pos h8]⟩
      go_enter Tryd.func47, Tryd.ntmps47
      go_wp2
      go_ret3
      rw [hfin.out]
      refine ⟨?_, rfl⟩
      have : x = ((x.toNat : Nat) : Int) := by omega
      simp only [numR, Er.code]
      rw [← this]; rfl
    · obtain ⟨m, rfl⟩ : ∃ m : Nat, x = 247 + m := ⟨(x - 247).toNat, by omega⟩
      have hnum := num_cons (247 + (m : Int)) xs
      rw [if_neg h8, show ((247 + (m : Int) - 247).toNat) = m from by omega] at hnum
      have Hnum := Held.mk hnum
      have hm1 : 1 ≤ m := by omega
      have hm8 : m ≤ 8 := by omega
      have hmI : (1 : Int) ≤ (m : Int) ∧ (m : Int) ≤ 8 := ⟨by omega, by omega⟩
      have he : (247 + (m : Int)) - 247 = (m : Int) := by omega
      clear hnum
      by_cases hs : n ≤ m
      · have hfin : Held (num ((247 + (m : Int)) :: xs) = (0, 0, .no 2)) := ⟨by rw [Hnum.out, if_pos (by have := hlen.out; simp at this; omega)]⟩
        have hs' : (n : Int) < 1 + (m : Int) := by omega
        go_enter Tryd.func47, Tryd.ntmps47
        go_wp2
        go_ret3
        rw [hfin.out]
        exact ⟨rfl, rfl⟩
      · have hs' : ¬ (n : Int) < 1 + (m : Int) := by omega
        have hns : ¬ xs.length < m := by have := hlen.out; simp at this; omega
        rw [if_neg hns] at Hnum
        have HL : Held (m ≤ xs.length) := ⟨by omega⟩
        have HB := Held.mk Hb.out.tail
        have HC : Held (∀ p, p < m → w.cell? (ad.add (p + 1)) = some (.int .u8 (xs.getD p 0))) := ⟨fun p hp => by
          obtain ⟨ad', h1, h2⟩ := Hr.out.at_ (show p + 1 < n by omega)
          injection h1 with h1
          subst h1
          simpa using h2⟩
        clear hns
        go_enter Tryd.func47, Tryd.ntmps47
        go_wp2_with fail
        go_loopw [6, 7] (fun X i wr => ∃ p : Nat, p ≤ m ∧ i = .int .i64 ((p : Int) + 1) ∧ X = .int .u64 (low (xs.take p)) ∧ wr = w) (fun _ i _ => m + 1 - (intOf i).toNat)
        case atStart => exact ⟨0, Nat.zero_le _, rfl, rfl, rfl⟩
        case round =>
          obtain ⟨p, hp, rfl, rfl, rfl⟩ := hrel
          by_cases hlt : p < m
          · have hcp : wr.cell? ⟨ad.block, ad.off + (p + 1), none⟩ = some (.int .u8 (xs.getD p 0)) := by
              have := HC.out p hlt
              simpa [Addr.add] using this
            have hcb := HB.out.getD p
            have hX : low (xs.take p) < 72057594037927936 := by
              have h1 := low_lt _ (HB.out.take p)
              have h2 : (xs.take p).length = p := by rw [List.length_take]; have := HL.out; omega
              have h3 : 256 ^ p ≤ 256 ^ 7 := Nat.pow_le_pow_right (by omega) (by omega)
              rw [h2] at h1
              have e : (256 : Nat) ^ 7 = 72057594037927936 := by decide
              omega
            have hs2 : xs.take (p + 1) = xs.take p ++ [xs.getD p 0] := by
              rw [List.take_succ_eq_append_getElem (by have := HL.out; omega), List.getD_eq_getElem?_getD, List.getElem?_eq_getElem (by have := HL.out; omega)]; rfl
            have HN : Held (low (xs.take (p + 1)) = low (xs.take p) * 256 + (xs.getD p 0).toNat) := ⟨by rw [hs2, low_snoc]⟩
            generalize low (xs.take p) = X at *
            generalize xs.getD p 0 = y at *
            have hXI : (X : Int) < 72057594037927936 := by omega
            have hw1 : IntKind.u64.wrap ((X : Int) * 256) = (X : Int) * 256 := by simp [IntKind.wrap, IntKind.signed, IntKind.bits]; omega
            have hw2 : IntKind.u64.wrap ((X : Int) * 256 + y) = (X : Int) * 256 + y := by simp [IntKind.wrap, IntKind.signed, IntKind.bits]; omega
            have hpI : (p : Int) + 1 ≤ (m : Int) := by omega
            have HX := Held.mk hX
            have HY := Held.mk hcb
            obtain ⟨hy0, hy1⟩ := hcb
            clear hX hs2 hXI
            go_wp2
            go_roundw
            case rel => exact ⟨p + 1, by omega, by go_num, by rw [HN.out]; go_num, by first | rfl | trivial⟩
            case measure => simp [intOf]; omega
          · obtain rfl : p = m := by omega
            have hB := HB.out.take p
            have h2 : (xs.take p).length = p := by rw [List.length_take]; have := HL.out; omega
            have hlw := low_lt _ hB
            rw [h2] at hlw
            have hU : U64 (low (xs.take p)) := by
              have h3 : 256 ^ p ≤ 256 ^ 8 := Nat.pow_le_pow_right (by omega) hm8
              have e : (256 : Nat) ^ 8 = 18446744073709551616 := by decide
              unfold U64; omega
            have HSb := Held.mk (size_bits _ p hlw hm1 hm8)
            have HRs := Held.mk (fun w h => rsize_any (low (xs.take p)) w hU h)
            generalize low (xs.take p) = X at *
            clear hlw hU hB h2
            by_cases hX8 : X < 248
            · rw [if_pos (.inl hX8)] at Hnum
              have hXI : (X : Int) < 248 := by omega
              go_wp2
              go_ret3
              rw [Hnum.out]
              exact ⟨rfl, rfl⟩
            · have hXI : ¬ (X : Int) < 248 := by omega
              have HRq := Held.mk (fun w => HRs.out w (by omega))
              by_cases hbl : Lib.bitLen X ≤ 8 * (p - 1)
              · rw [if_pos (.inr hbl)] at Hnum
                have hne := HSb.out.1 hbl
                generalize size X = z at *
                have hneI : ¬ (z : Int) = (p : Int) := by omega
                clear hbl hne
                go_wp2_with (go_at_call 70; refine (HRq.out _).mono ?_; rintro e w' ⟨rfl, rfl⟩)
                go_ret3
                rw [Hnum.out]
                exact ⟨rfl, rfl⟩
              · have hz : size X = p := by
                  rcases Decidable.em (size X = p) with h | h
                  · exact h
                  · exact absurd (HSb.out.2 h) hbl
                rw [if_neg (by omega)] at Hnum
                rw [hz] at HRq
                clear hbl hz HSb HRs
                go_wp2_with (go_at_call 70; refine (HRq.out _).mono ?_; rintro e w' ⟨rfl, rfl⟩)
                go_ret3
                rw [Hnum.out]
                refine ⟨?_, rfl⟩
                simp only [numR, Er.code]
                have : 1 + (p : Int) = ((p + 1 : Nat) : Int) := by omega
                rw [← this]
                rfl
end Wire
end Go.Proofs.YtihgmlcmdpmhhaaDoor
/- The sum of bytes, four bits at a time and bit by bit: plain Lean. -/
namespace Go.Proofs.YtihgmlcmdpmhhaaDoor
set_option linter.unusedVariables false
namespace Wire
def poly : Nat := 2197175160
def half : List Nat := [0, 274646895, 549293790, 820201905, 1098587580, 1361435347, 1640403810, 1905808397, 2197175160, 2460548119, 2722870694, 2987750089, 3280807620, 3553878443, 3811616794, 4084100981]
def g1 (c : Nat) : Nat := c / 2 ^^^ (if c % 2 = 1 then poly else 0)
def g4 (s : Nat) : Nat := s / 16 ^^^ half.getD (s % 16) 0
/-- One byte by the table. -/
def sumB (s c : Nat) : Nat := g4 (g4 (s ^^^ c))
def sumT (l : List Nat) : Nat := l.foldl sumB 4294967295
/-- One bit of a byte, the byte's rest. -/
def bitB (c y k : Nat) : Nat := c / 2 ^^^ (if c % 2 = y / 2 ^ k % 2 then 0 else poly)
def bitsB (c y : Nat) : Nat → Nat
  | 0 => c
  | k + 1 => bitB (bitsB c y k) y k
theorem xor_div2 (a b : Nat) : (a ^^^ b) / 2 = a / 2 ^^^ b / 2 := by
  have := Nat.shiftRight_xor_distrib (a := a) (b := b) (i := 1)
  simpa [Nat.shiftRight_eq_div_pow] using this
theorem xor_mod2 (a b : Nat) : (a ^^^ b) % 2 = (a % 2 + b % 2) % 2 := by
  have h : (a ^^^ b) % 2 = (a % 2) ^^^ (b % 2) := Nat.xor_mod_two_pow (n := 1)
  rw [h]
  rcases Nat.mod_two_eq_zero_or_one a with ha | ha <;> rcases Nat.mod_two_eq_zero_or_one b with hb | hb <;> rw [ha, hb] <;> rfl
theorem g1_xor (a b : Nat) : g1 (a ^^^ b) = g1 a ^^^ g1 b := by
  unfold g1
  rw [xor_div2, xor_mod2]
  rcases Nat.mod_two_eq_zero_or_one a with ha | ha <;> rcases Nat.mod_two_eq_zero_or_one b with hb | hb <;> simp [ha, hb]
  · ac_rfl
  · ac_rfl
  · have : poly ^^^ poly = 0 := Nat.xor_self _
    calc a / 2 ^^^ b / 2 = a / 2 ^^^ b / 2 ^^^ 0 := (Nat.xor_zero _).symm
      _ = a / 2 ^^^ b / 2 ^^^ (poly ^^^ poly) := by rw [this]
      _ = a / 2 ^^^ poly ^^^ (b / 2 ^^^ poly) := by ac_rfl
def iter (f : Nat → Nat) : Nat → Nat → Nat
  | 0, x => x
  | n + 1, x => f (iter f n x)
theorem iter_add (f : Nat → Nat) (m n x : Nat) : iter f m (iter f n x) = iter f (m + n) x := by
  induction m with
  | zero => rw [Nat.zero_add]; rfl
  | succ m ih => rw [Nat.succ_add]; show f (iter f m (iter f n x)) = f (iter f (m + n) x); rw [ih]
theorem iter_xor (n a b : Nat) : iter g1 n (a ^^^ b) = iter g1 n a ^^^ iter g1 n b := by
  induction n with
  | zero => rfl
  | succ n ih => show g1 (iter g1 n (a ^^^ b)) = _; rw [ih, g1_xor]; rfl
theorem iter_high (n x : Nat) (h : x % 2 ^ n = 0) : iter g1 n x = x / 2 ^ n := by
  induction n with
  | zero => simp [iter]
  | succ n ih =>
    have hd : 2 ^ n ∣ 2 ^ (n + 1) := Nat.pow_dvd_pow 2 (by omega)
    have h1 : x % 2 ^ n = 0 := by
      have := Nat.mod_mod_of_dvd x hd
      rw [h] at this
      simpa using this.symm
    show g1 (iter g1 n x) = _
    rw [ih h1]
    have h2 : x / 2 ^ n % 2 = 0 := by
      rw [Nat.pow_succ, Nat.mod_mul, h1] at h
      have hp : 0 < 2 ^ n := Nat.pow_pos (by omega)
      rw [Nat.zero_add] at h
      rcases Nat.mul_eq_zero.1 h with h | h
      · omega
      · exact h
    unfold g1
    rw [if_neg (by omega), Nat.xor_zero, Nat.div_div_eq_div_mul, ← Nat.pow_succ]
theorem g4_small : ∀ i : Fin 16, iter g1 4 i.val = half.getD i.val 0 := by decide +kernel
theorem split16 (s : Nat) : s = s / 16 * 16 ^^^ s % 16 := by
  have h : s % 16 < 2 ^ 4 := by omega
  have := Nat.two_pow_add_eq_or_of_lt h (s / 16)
  have h2 : 2 ^ 4 * (s / 16) ^^^ s % 16 = 2 ^ 4 * (s / 16) ||| s % 16 := by
    apply Nat.eq_of_testBit_eq
    intro i
    rw [Nat.testBit_xor, Nat.testBit_or, Nat.testBit_two_pow_mul]
    by_cases hi : 4 ≤ i
    · have : (s % 16).testBit i = false := Nat.testBit_lt_two_pow (Nat.lt_of_lt_of_le h (Nat.pow_le_pow_right (by omega) hi))
      simp [this, hi]
    · simp [hi]
  rw [show s / 16 * 16 = 2 ^ 4 * (s / 16) from by omega, h2, ← this]
  omega
theorem g4_eq (s : Nat) : g4 s = iter g1 4 s := by
  conv => rhs; rw [split16 s]
  rw [iter_xor, iter_high 4 (s / 16 * 16) (by omega)]
  have := g4_small ⟨s % 16, by omega⟩
  simp only at this
  rw [this]
  unfold g4
  congr 1
  omega
theorem bits_iter (c y k : Nat) : iter g1 k (c ^^^ y) = bitsB c y k ^^^ y / 2 ^ k := by
  induction k with
  | zero => simp [iter, bitsB]
  | succ k ih =>
    show g1 (iter g1 k (c ^^^ y)) = bitB (bitsB c y k) y k ^^^ y / 2 ^ (k + 1)
    rw [ih]
    unfold g1 bitB
    rw [xor_div2, xor_mod2, Nat.div_div_eq_div_mul, ← Nat.pow_succ]
    generalize bitsB c y k = a
    generalize y / 2 ^ (k + 1) = z
    generalize y / 2 ^ k = b
    rcases Nat.mod_two_eq_zero_or_one a with ha | ha <;> rcases Nat.mod_two_eq_zero_or_one b with hb | hb <;> simp [ha, hb] <;> ac_rfl
theorem sumB_eq (s c : Nat) (hc : c < 256) : sumB s c = bitsB s c 8 := by
  unfold sumB
  rw [g4_eq, g4_eq, iter_add, bits_iter, show c / 2 ^ (4 + 4) = 0 from Nat.div_eq_of_lt hc, Nat.xor_zero]
theorem xor_lt (a b : Nat) (ha : a < 4294967296) (hb : b < 4294967296) : a ^^^ b < 4294967296 := Nat.xor_lt_two_pow (n := 32) ha hb
theorem half_lt (i : Nat) : half.getD i 0 < 4294967296 := by
  rcases Nat.lt_or_ge i 16 with h | h
  · have : ∀ i : Fin 16, half.getD i.val 0 < 4294967296 := by decide +kernel
    exact this ⟨i, h⟩
  · rw [List.getD_eq_getElem?_getD, List.getElem?_eq_none (by simpa [half] using h)]; simp
theorem g4_lt (s : Nat) (h : s < 4294967296) : g4 s < 4294967296 := xor_lt _ _ (by omega) (half_lt _)
theorem sumB_lt (s c : Nat) (h : s < 4294967296) (hc : c < 256) : sumB s c < 4294967296 := g4_lt _ (g4_lt _ (xor_lt _ _ h (by omega)))
theorem bitB_lt (c y k : Nat) (h : c < 4294967296) : bitB c y k < 4294967296 := by
  unfold bitB
  exact xor_lt _ _ (by omega) (by split <;> simp [poly])
theorem bitsB_lt (c y k : Nat) (h : c < 4294967296) : bitsB c y k < 4294967296 := by
  induction k with
  | zero => exact h
  | succ k ih => exact bitB_lt _ _ _ ih
theorem sumT_lt (l : List Nat) (hl : ∀ c ∈ l, c < 256) : sumT l < 4294967296 := by
  have : ∀ (l : List Nat) (s : Nat), (∀ c ∈ l, c < 256) → s < 4294967296 → l.foldl sumB s < 4294967296 := by
    intro l
    induction l with
    | nil => intro s _ h; exact h
    | cons c l ih => intro s hl h; exact ih _ (fun d hd => hl d (List.mem_cons_of_mem _ hd)) (sumB_lt _ _ h (hl c (List.mem_cons_self ..)))
  exact this l _ hl (by omega)
end Wire
end Go.Proofs.YtihgmlcmdpmhhaaDoor
namespace Go.Proofs.YtihgmlcmdpmhhaaDoor
set_option linter.unusedVariables false
namespace Wire
open Go.RowKit Mem

def nats (l : List Int) : List Nat := l.map Int.toNat
/-- The sum of bytes. -/
def crc (l : List Int) : Nat := sumT (nats l) ^^^ 4294967295
def halfC : Array Value := #[.int .u32 0, .int .u32 274646895, .int .u32 549293790, .int .u32 820201905, .int .u32 1098587580, .int .u32 1361435347, .int .u32 1640403810, .int .u32 1905808397, .int .u32 2197175160, .int .u32 2460548119, .int .u32 2722870694, .int .u32 2987750089, .int .u32 3280807620, .int .u32 3553878443, .int .u32 3811616794, .int .u32 4084100981]
theorem halfC_get (i : Nat) (hi : i < 16) : halfC[i]? = some (.int .u32 (half.getD i 0 : Nat)) := by
  have : ∀ j, j < 16 → j = i → halfC[i]? = some (.int .u32 (half.getD i 0 : Nat)) := by
    intro j hj e
    match j, hj with
    | 0, _ => subst e; rfl
    | 1, _ => subst e; rfl
    | 2, _ => subst e; rfl
    | 3, _ => subst e; rfl
    | 4, _ => subst e; rfl
    | 5, _ => subst e; rfl
    | 6, _ => subst e; rfl
    | 7, _ => subst e; rfl
    | 8, _ => subst e; rfl
    | 9, _ => subst e; rfl
    | 10, _ => subst e; rfl
    | 11, _ => subst e; rfl
    | 12, _ => subst e; rfl
    | 13, _ => subst e; rfl
    | 14, _ => subst e; rfl
    | 15, _ => subst e; rfl
    | j + 16, hj => omega
  exact this i hi rfl
theorem and15 (s : Nat) (h : s < 4294967296) : bits .and .u32 (s : Int) 15 = ((s % 16 : Nat) : Int) := by
  have := u32_and_nat s 15 h (by omega)
  rw [show ((15 : Nat) : Int) = 15 from rfl] at this
  rw [this]
  congr 1
  exact Nat.and_two_pow_sub_one_eq_mod s 4
theorem g4_bits (s : Nat) (h : s < 4294967296) : bits .xor .u32 ((s : Int) / 16) ((half.getD (s % 16) 0 : Nat) : Int) = ((g4 s : Nat) : Int) := by
  have := u32_xor_nat (s / 16) (half.getD (s % 16) 0) (by omega) (half_lt _)
  rw [show (((s / 16 : Nat)) : Int) = (s : Int) / 16 from by omega] at this
  exact this
theorem nats_snoc (l : List Int) (b : Nat) : nats (l ++ [(b : Int)]) = nats l ++ [b] := by simp [nats]
theorem sumT_snoc (l : List Nat) (b : Nat) : sumT (l ++ [b]) = sumB (sumT l) b := by simp [sumT]
theorem sumT_byt (l : List Int) (h : Byt l) : sumT (nats l) < 4294967296 := sumT_lt _ (fun c hc => by
  obtain ⟨x, hx, rfl⟩ := List.mem_map.1 hc
  have := h x hx
  omega)

set_option maxHeartbeats 2000000 in
set_option maxRecDepth 100000 in
theorem sum_any (ok : Nat → Prop) (A : Option Addr) (n c : Nat) (xs : List Int) (w : World) (hr : RdN w ok .u8 A n xs) (hl : n ≤ 140737488355328) (hb : Byt xs) :
    Calls Tryd.prog 53 #[.slice A n c] w fun e w' => e = .returned (.int .u32 (crc xs)) ∧ Below w.heap.size w w' := by
  have h1 := Held.mk hr.len
  have Hr := Held.mk (hr.lt (by decide))
  have Hb := Held.mk hb
  clear hr hb
  go_enter Tryd.func53, Tryd.ntmps53
  go_wp2
  have hT : ∀ i, i < 16 → (w.alloc (.cells halfC 123)).cell? ⟨w.heap.size, i, none⟩ = some (.int .u32 (half.getD i 0 : Nat)) := fun i hi => by
    rw [cell_of_row _ _ i halfC 123 (0, 0) (heap_alloc_new w _)]
    exact halfC_get i hi
  have hB : Below w.heap.size w (w.alloc (.cells halfC 123)) := (Below.refl _ _).alloc (Nat.le_refl _) _
  unfold halfC at hT hB
  generalize w.alloc (.cells #[.int .u32 0, .int .u32 274646895, .int .u32 549293790, .int .u32 820201905, .int .u32 1098587580, .int .u32 1361435347, .int .u32 1640403810, .int .u32 1905808397, .int .u32 2197175160, .int .u32 2460548119, .int .u32 2722870694, .int .u32 2987750089, .int .u32 3280807620, .int .u32 3553878443, .int .u32 3811616794, .int .u32 4084100981] 123) = W at *
  have HT := Held.mk hT
  have HB := Held.mk hB
  have Hr' := Held.mk (Hr.out.keep (Keep.of_below hB (fun k => ¬ k < w.heap.size)) (fun k hk => by simp; exact hk.2))
  clear hT hB Hr
  generalize hg : w.heap.size = g at *
  have Hg := Held.mk hg
  clear hg
  go_loop [4, 10] (fun s i => ∃ k : Nat, i = .int .i64 k ∧ k ≤ n ∧ s = .int .u32 (sumT (nats (xs.take k)) : Nat)) (fun _ i => n - (intOf i).toNat)
  case atStart => exact ⟨0, rfl, Nat.zero_le _, rfl⟩
  case round =>
    obtain ⟨k, rfl, hk, rfl⟩ := hrel
    have hsl := sumT_byt _ (Hb.out.take k)
    by_cases hlt : k < n
    · obtain ⟨ad, rfl, hc⟩ := RdN.at_ Hr'.out hlt
      have hcb := Hb.out.getD k
      generalize hy : xs.getD k 0 = y at *
      obtain ⟨b, rfl⟩ := Int.eq_ofNat_of_zero_le hcb.1
      have hs : xs.take (k + 1) = xs.take k ++ [(b : Int)] := by
        rw [List.take_succ_eq_append_getElem (by rw [h1.out]; exact hlt), ← hy, List.getD_eq_getElem?_getD, List.getElem?_eq_getElem (by rw [h1.out]; exact hlt)]; rfl
      have Hn : Held (sumT (nats (xs.take (k + 1))) = sumB (sumT (nats (xs.take k))) b) := ⟨by rw [hs, nats_snoc, sumT_snoc]⟩
      clear hs hy
      generalize sumT (nats (xs.take k)) = s at *
      have hx1 := u32_xor_nat s b hsl (by omega)
      have hl1 : s ^^^ b < 4294967296 := xor_lt _ _ hsl (by omega)
      unfold sumB at Hn
      generalize s ^^^ b = s1 at *
      have ha1 := and15 s1 hl1
      have hx2 := g4_bits s1 hl1
      have hc1 := HT.out (s1 % 16) (by omega)
      have hl2 := g4_lt s1 hl1
      generalize g4 s1 = s2 at *
      have ha2 := and15 s2 hl2
      have hx3 := g4_bits s2 hl2
      have hc2 := HT.out (s2 % 16) (by omega)
      have hl3 := g4_lt s2 hl2
      generalize g4 s2 = s3 at *
      have hi1 : s1 % 16 < 16 := by omega
      have hi2 : s2 % 16 < 16 := by omega
      generalize s1 % 16 = i1 at *
      generalize s2 % 16 = i2 at *
      generalize half.getD i1 0 = v1 at *
      generalize half.getD i2 0 = v2 at *
      go_wp2
      go_round
      case rel => exact ⟨k + 1, by go_num, by omega, by rw [Hn.out]⟩
      case measure => simp [intOf]; omega
    · have ek : xs.take k = xs := List.take_of_length_le (by rw [h1.out]; omega)
      rw [ek] at hsl ⊢
      clear ek
      have hfin : Held (bits .xor .u32 IntKind.u32.max ((sumT (nats xs) : Nat) : Int) = (crc xs : Nat)) := ⟨by
        have := u32_xor_nat 4294967295 (sumT (nats xs)) (by omega) hsl
        rw [Nat.xor_comm] at this
        exact this⟩
      go_wp2
      go_ret
      rw [← hfin.out]
      exact ⟨rfl, by rw [Hg.out]; exact HB.out⟩
end Wire
end Go.Proofs.YtihgmlcmdpmhhaaDoor
/- Frame: walked. -/
namespace Go.Proofs.YtihgmlcmdpmhhaaDoor
set_option linter.unusedVariables false
set_option linter.unusedSimpArgs false
namespace Wire
open Go.RowKit Mem Apn
/-- A frame, as bytes. -/
def frameL (x : Nat) (ps : List Int) : List Int := form ps.length ++ form x ++ hi (crc (form x ++ ps)) 4 ++ ps
def wPayload : ByteArray := ⟨#[97, 32, 112, 97, 121, 108, 111, 97, 100]⟩
def wFrame : ByteArray := ⟨#[97, 32, 102, 114, 97, 109, 101]⟩
theorem crc_lt (l : List Int) (h : Byt l) : crc l < 4294967296 := by
  unfold crc
  exact xor_lt _ _ (sumT_byt l h) (by decide)
set_option maxHeartbeats 1000000 in
set_option maxRecDepth 100000 in
theorem frame_no (x : Nat) (A : Option Addr) (n c : Nat) (w : World) (hn : 65536 < n) : Calls Tryd.prog 62 #[.int .u64 x, .slice A n c] w fun e w' => e = .returned (.tuple #[.slice none 0 0, Er.enc (.ref wPayload 5)]) ∧ w' = w := by
  have hnI : (65536 : Int) < (n : Int) := by omega
  clear hn
  go_enter Tryd.func62, Tryd.ntmps62
  go_wp2
  go_ret2
  exact ⟨rfl, rfl⟩
set_option maxHeartbeats 4000000 in
set_option maxRecDepth 100000 in
theorem frame_in (ok : Nat → Prop) (x : Nat) (A : Option Addr) (n c : Nat) (ps : List Int) (w : World) (hr : RdN w ok .u8 A n ps) (hn : n ≤ 65536) (hx : U64 x) (hb : Byt ps) :
    Calls Tryd.prog 62 #[.int .u64 x, .slice A n c] w fun e w' => ∃ v, e = .returned (.tuple #[v, .nilIface]) ∧ OwnN w' w.heap.size 5 .u8 v (frameL x ps) ∧ Below w.heap.size w w' := by
  have hlen := Held.mk hr.len
  have hfl := form_length x hx
  have hnU : U64 n := by unfold U64; omega
  have hfn := form_length n hnU
  have Hr := Held.mk (hr.lt (by decide))
  have HX := Held.mk hx
  have HNU := Held.mk hnU
  have HBf := Held.mk (Byt.form x hx)
  have HBa := Held.mk (HBf.out.append hb)
  have hnI : (n : Int) ≤ 65536 := by omega
  have HK := Held.mk (show ∀ (W : World), Below w.heap.size w W → RdN W _ .u8 A n ps from fun W hB => RdV.keep Hr.out (Keep.of_below hB (fun _ => False)) (fun _ _ h => h))
  unfold frameL
  rw [hlen.out]
  clear hr hx hb hnU
  go_enter Tryd.func62, Tryd.ntmps62
  go_wp2_with fail
  refine (put_any w.heap.size _ [] x w HX.out (by simp) (own_nil _ _ _ _) (Nat.le_refl _)).mono ?_
  rintro e w1 ⟨v1, rfl, ho1, hg1, hat1⟩
  rw [List.nil_append] at ho1
  obtain ⟨A1, c1, rfl, hc1, hr1⟩ := RdN.of_own ho1
  have HB1 : Held (Below w.heap.size w w1) := ⟨((Keep.refl (fun _ => False) w).grown hg1 (fun k hk e => by simp [Value.ownBlock] at e)).to_below (fun _ _ h => h)⟩
  have HR1 := Held.mk hr1
  have HO1 := Held.mk ho1
  clear ho1 hg1 hat1 hr1
  go_wp2_with fail
  refine (clone_any _ A1 _ c1 (form x) w1 HR1.out (by omega) hc1).mono ?_
  rintro e w2 ⟨v2, rfl, ho2, hb2⟩
  have HB2 := Held.mk (HB1.out.trans (hb2.mono HB1.out.size))
  have HB12 := Held.mk hb2
  have HR2 := Held.mk (HK.out _ HB2.out)
  have HO2 := Held.mk ho2
  have HC2 : Held ((((form x).length + n) + ((form x).length + n) / 4 + 192) * 1 ≤ 281474976710656) := ⟨by omega⟩
  have HD2 : Held (w1.heap.size ≤ w2.heap.size) := ⟨hb2.size⟩
  obtain ⟨A2, c2, rfl, _, _⟩ := RdN.of_own ho2
  clear ho2 hb2
  go_wp2_with ((at_builtin; go_loud (refine appN w1.heap.size rfl (.tmp 17) (.tmp 18) 22 5 .u8 1 rfl Tryd.underlying22 info_u8 (by decide) _ (form x) rfl HO2.out _ A n c ps rfl HR2.out HC2.out HD2.out ?_)); (intro v3 w3 ho3 hg3 hat3); (have HO3 := Held.mk ho3); (have HG3 := Held.mk hg3); (clear ho3 hg3 hat3))
  have HB3 : Held (Below w.heap.size w w3) := ⟨((Keep.of_below HB2.out (fun _ => False)).then (Keep.of_grown HG3.out) (fun k hk e => by have := own_ge HO2.out k e; have := HB1.out.size; omega)).to_below (fun _ _ h => h)⟩
  have HB13 : Held (Below w1.heap.size w1 w3) := ⟨((Keep.of_below HB12.out (fun _ => False)).then (Keep.of_grown HG3.out) (fun k hk e => by have := own_ge HO2.out k e; omega)).to_below (fun _ _ h => h)⟩
  obtain ⟨A3, c3, rfl, _, hr3⟩ := RdN.of_own HO3.out
  have hl3 : (form x ++ ps).length ≤ 140737488355328 := by rw [List.length_append, hlen.out]; omega
  refine (sum_any _ A3 _ c3 (form x ++ ps) w3 hr3 hl3 HBa.out).mono ?_
  rintro e w4 ⟨rfl, hb4⟩
  have HB4 := Held.mk (HB3.out.trans (hb4.mono HB3.out.size))
  have HR4 : Held (RdN w4 _ .u8 A1 (form x).length (form x)) := ⟨RdV.keep HR1.out (Keep.of_below (HB13.out.trans (hb4.mono HB13.out.size)) (fun _ => False)) (fun _ _ h => h)⟩
  have hwn : IntKind.u64.wrap (n : Int) = (n : Int) := by simp [IntKind.wrap, IntKind.signed, IntKind.bits]; omega
  have HCr := Held.mk (crc_lt (form x ++ ps) HBa.out)
  generalize hcq : crc (form x ++ ps) = cr at *
  have HCq := Held.mk hcq
  clear hcq
  have hcrI : (cr : Int) < 4294967296 := by have := HCr.out; omega
  clear hb4 hr3 hl3
  go_wp2_with fail
  refine (put_any w.heap.size _ [] n w4 HNU.out (by simp) (own_nil _ _ _ _) HB4.out.size).mono ?_
  rintro e w5 ⟨v5, rfl, ho5, hg5, hat5⟩
  rw [List.nil_append] at ho5
  have HB5 : Held (Below w.heap.size w w5) := ⟨((Keep.of_below HB4.out (fun _ => False)).grown hg5 (fun k hk e => by simp [Value.ownBlock] at e)).to_below (fun _ _ h => h)⟩
  have HR5 : Held (RdN w5 _ .u8 A1 (form x).length (form x)) := ⟨RdV.keep HR4.out (Keep.of_grown hg5) (fun _ _ h => by simp [Value.ownBlock] at h)⟩
  have HO5 := Held.mk ho5
  have HC5 : Held ((((form n).length + (form x).length) + ((form n).length + (form x).length) / 4 + 192) * 1 ≤ 281474976710656) := ⟨by omega⟩
  clear ho5 hg5 hat5 hwn
  go_wp2_with ((at_builtin; go_loud (refine appN w.heap.size rfl (.tmp 24) (.tmp 25) 22 5 .u8 1 rfl Tryd.underlying22 info_u8 (by decide) _ (form n) rfl HO5.out _ A1 _ c1 (form x) rfl HR5.out HC5.out HB5.out.size ?_)); (intro v6 w6 ho6 hg6 hat6); (have HO6 := Held.mk ho6); (have HG6 := Held.mk hg6); (clear ho6 hg6 hat6))
  have HB6 : Held (Below w.heap.size w w6) := ⟨((Keep.of_below HB5.out (fun _ => False)).then (Keep.of_grown HG6.out) (fun k hk e => by have := own_ge HO5.out k e; omega)).to_below (fun _ _ h => h)⟩
  have hl6 : (form n ++ form x).length ≤ 18 := by rw [List.length_append]; omega
  refine (high_any w.heap.size v6 (form n ++ form x) cr 4 w6 (by have := HCr.out; unfold U64; omega) (by omega) (by omega) HO6.out HB6.out.size).mono ?_
  rintro e w7 ⟨v7, rfl, ho7, hg7, hat7⟩
  have HB7 : Held (Below w.heap.size w w7) := ⟨((Keep.of_below HB6.out (fun _ => False)).then (Keep.of_grown hg7) (fun k hk e => by have := own_ge HO6.out k e; omega)).to_below (fun _ _ h => h)⟩
  have HO7 := Held.mk ho7
  have HR7 := Held.mk (HK.out _ HB7.out)
  have hl7 : (form n ++ form x ++ hi cr 4).length ≤ 22 := by rw [List.length_append, hi_length]; omega
  have HC7 : Held ((((form n ++ form x ++ hi cr 4).length + n) + ((form n ++ form x ++ hi cr 4).length + n) / 4 + 192) * 1 ≤ 281474976710656) := ⟨by omega⟩
  clear ho7 hg7 hat7 hl6 hl7
  go_wp2_with ((at_builtin; go_loud (refine appN w.heap.size rfl (.tmp 30) (.tmp 31) 22 5 .u8 1 rfl Tryd.underlying22 info_u8 (by decide) _ (form n ++ form x ++ hi cr 4) rfl HO7.out _ A n c ps rfl HR7.out HC7.out HB7.out.size ?_)); (intro v8 w8 ho8 hg8 hat8); (have HO8 := Held.mk ho8); (have HG8 := Held.mk hg8); (clear ho8 hg8 hat8))
  go_ret2
  rw [HCq.out]
  exact ⟨_, rfl, HO8.out, ((Keep.of_below HB7.out (fun _ => False)).then (Keep.of_grown HG8.out) (fun k hk e => by have := own_ge HO7.out k e; omega)).to_below (fun _ _ h => h)⟩
end Wire
end Go.Proofs.YtihgmlcmdpmhhaaDoor
/- Unframe: walked. -/
namespace Go.Proofs.YtihgmlcmdpmhhaaDoor
set_option linter.unusedVariables false
set_option linter.unusedSimpArgs false
namespace Wire
open Go.RowKit Mem Apn
theorem results_tmp4 {fn : Func} {t u v x : Tmp} (h : fn.results = #[.tmp t, .tmp u, .tmp v, .tmp x]) (tmps : Array Value) (P : Program) (w : World) :
    (results fn tmps).run P w = .ok (.tuple #[tmps.getD t undef, tmps.getD u undef, tmps.getD v undef, tmps.getD x undef]) w := by
  simp [results, h]
theorem rd_own {w : World} {base e : Nat} {k : IntKind} {v : Value} {xs : List Int} (h : OwnN w base e k v xs) : ∃ A n c, v = .slice A n c ∧ Held (n = xs.length) ∧ n ≤ c ∧ RdN w (fun b => v.ownBlock = some b) k A n xs := by
  obtain ⟨A, c, h1, h2, h3⟩ := RdN.of_own h
  exact ⟨A, _, c, h1, ⟨rfl⟩, h2, h3⟩
/-- The frame at the beginning of bytes: its number, its payload, how many bytes it has. -/
def unf (b : List Int) : Nat × List Int × Nat × Er :=
  match (num b).2.2 with
  | .ok =>
    if 65536 < (num b).1 then (0, [], 0, .no 5)
    else match (num (b.drop (num b).2.1)).2.2 with
      | .ok =>
        if b.length < (num b).2.1 + (num (b.drop (num b).2.1)).2.1 + 4 + (num b).1 then (0, [], 0, .no 2)
        else if crc ((b.drop (num b).2.1).take (num (b.drop (num b).2.1)).2.1 ++ (b.drop ((num b).2.1 + (num (b.drop (num b).2.1)).2.1 + 4)).take (num b).1) = low ((b.drop ((num b).2.1 + (num (b.drop (num b).2.1)).2.1)).take 4)
          then ((num (b.drop (num b).2.1)).1, (b.drop ((num b).2.1 + (num (b.drop (num b).2.1)).2.1 + 4)).take (num b).1, (num b).2.1 + (num (b.drop (num b).2.1)).2.1 + 4 + (num b).1, .ok)
          else (0, [], 0, .ref wFrame 7)
      | e => (0, [], 0, e)
  | e => (0, [], 0, e)
theorem unf_bad1 {b : List Int} {sz m : Nat} {e : Er} (h : num b = (sz, m, e)) (he : e ≠ .ok) : unf b = (0, [], 0, e) := by
  unfold unf
  rw [h]
  cases e with
  | ok => exact absurd rfl he
  | no k => rfl
  | ref s k => rfl
theorem unf_many {b : List Int} {sz m : Nat} (h : num b = (sz, m, .ok)) (hs : 65536 < sz) : unf b = (0, [], 0, .no 5) := by
  unfold unf
  rw [h]
  simp only [if_pos hs]
theorem unf_bad2 {b : List Int} {sz m x k : Nat} {e : Er} (h : num b = (sz, m, .ok)) (hs : ¬ 65536 < sz) (h2 : num (b.drop m) = (x, k, e)) (he : e ≠ .ok) : unf b = (0, [], 0, e) := by
  unfold unf
  rw [h]
  cases e with
  | ok => exact absurd rfl he
  | no k => simp only [if_neg hs, h2]
  | ref s k => simp only [if_neg hs, h2]
theorem unf_good {b : List Int} {sz m x k : Nat} (h : num b = (sz, m, .ok)) (hs : ¬ 65536 < sz) (h2 : num (b.drop m) = (x, k, .ok)) : unf b =
    if b.length < m + k + 4 + sz then (0, [], 0, .no 2)
    else if crc ((b.drop m).take k ++ (b.drop (m + k + 4)).take sz) = low ((b.drop (m + k)).take 4) then (x, (b.drop (m + k + 4)).take sz, m + k + 4 + sz, .ok)
    else (0, [], 0, .ref wFrame 7) := by
  unfold unf
  rw [h]
  simp only [if_neg hs, h2]
theorem mid_eq (b : List Int) (l n : Nat) : (b.take (l + n)).drop l = (b.drop l).take n := by
  rw [List.drop_take, Nat.add_sub_cancel_left]
set_option maxHeartbeats 400000 in
set_option maxRecDepth 100000 in
theorem unframe_ok (ok : Nat → Prop) (A Ap Ak Al A1 : Option Addr) (n c sz m x k np cp nk ck nl cl n1 c1 : Nat) (pl ks ls : List Int) (w : World)
    (H1 : Held (Calls Tryd.prog 51 #[.slice A n c] w fun e w' => e = .returned (.tuple #[.int .u64 sz, .int .i64 m, .nilIface]) ∧ w = w'))
    (H2 : Held (Calls Tryd.prog 51 #[.slice A1 n1 c1] w fun e w' => e = .returned (.tuple #[.int .u64 x, .int .i64 k, .nilIface]) ∧ w = w'))
    (hrun1 : ∀ (W : World), (Instr.slice 22 (.slice A n c) (some (.int .i64 (m : Int))) none none).run Tryd.prog W = .ok (.slice A1 n1 c1) W)
    (hrunp : ∀ (W : World), (Instr.slice 22 (.slice A n c) (some (.int .i64 ((m : Int) + (k : Int) + 4))) (some (.int .i64 ((m : Int) + (k : Int) + 4 + (sz : Int)))) none).run Tryd.prog W = .ok (.slice Ap np cp) W)
    (hrunk : ∀ (W : World), (Instr.slice 22 (.slice A n c) (some (.int .i64 (m : Int))) (some (.int .i64 ((m : Int) + (k : Int)))) none).run Tryd.prog W = .ok (.slice Ak nk ck) W)
    (hrunl : ∀ (W : World), (Instr.slice 22 (.slice A n c) (some (.int .i64 ((m : Int) + (k : Int)))) (some (.int .i64 ((m : Int) + (k : Int) + 4))) none).run Tryd.prog W = .ok (.slice Al nl cl) W)
    (hszI : (0 : Int) ≤ sz) (hsI : (sz : Int) ≤ 65536) (hlep : np ≤ cp) (hlek : nk ≤ ck)
    (hw1 : IntKind.i64.wrap ((m : Int) + (k : Int)) = (m : Int) + (k : Int)) (hw2 : IntKind.i64.wrap ((m : Int) + (k : Int) + 4) = (m : Int) + (k : Int) + 4)
    (hw3 : IntKind.i64.wrap ((n : Int) - ((m : Int) + (k : Int) + 4)) = (n : Int) - ((m : Int) + (k : Int) + 4)) (hw4 : IntKind.i64.wrap (sz : Int) = (sz : Int))
    (hw5 : IntKind.i64.wrap ((m : Int) + (k : Int) + 4 + (sz : Int)) = (m : Int) + (k : Int) + 4 + (sz : Int)) (hshI : ¬ (n : Int) - ((m : Int) + (k : Int) + 4) < (sz : Int))
    (HRp : Held (RdN w (fun b => ok b ∧ b < w.heap.size) .u8 Ap np pl)) (HRk : Held (RdN w (fun b => ok b ∧ b < w.heap.size) .u8 Ak nk ks)) (HRl : Held (RdN w (fun b => ok b ∧ b < w.heap.size) .u8 Al nl ls))
    (HNp : Held (np ≤ 225179981368328)) (HNk : Held (nk ≤ 225179981368328)) (HNl : Held (nl ≤ 8)) (HBl : Held (Byt ls)) (HBx : Held (Byt (ks ++ pl)))
    (HC7 : Held ((ks.length + pl.length + (ks.length + pl.length) / 4 + 192) * 1 ≤ 281474976710656)) (HC8 : Held ((ks ++ pl).length ≤ 140737488355328))
    (hq : crc (ks ++ pl) = low ls) (HLc : Held (crc (ks ++ pl) < 4294967296)) (HLl : Held (low ls < 4294967296)) :
    Calls Tryd.prog 18 #[.slice A n c] w fun e w' => ∃ v, e = .returned (.tuple #[.int .u64 x, v, .int .i64 ((m : Int) + (k : Int) + 4 + (sz : Int)), .nilIface]) ∧ OwnN w' w.heap.size 5 .u8 v pl ∧ Below w.heap.size w w' := by
  generalize hcr : crc (ks ++ pl) = cr at *
  generalize hlw : low ls = lw at *
  have HCr := Held.mk hcr
  have HLw := Held.mk hlw
  have hwl : IntKind.u32.wrap (lw : Int) = (lw : Int) := by have := HLl.out; simp [IntKind.wrap, IntKind.signed, IntKind.bits]; omega
  have hSum : Held (∀ (ok' : Nat → Prop) A n c w, RdN w ok' .u8 A n (ks ++ pl) → n ≤ 140737488355328 → Calls Tryd.prog 53 #[.slice A n c] w fun e w' => e = .returned (.int .u32 cr) ∧ Below w.heap.size w w') := ⟨fun ok' A n c w hr hl => by rw [← HCr.out]; exact sum_any ok' A n c _ w hr hl HBx.out⟩
  have hLow : Held (∀ (ok' : Nat → Prop) A n c w, RdN w ok' .u8 A n ls → n ≤ 8 → Calls Tryd.prog 54 #[.slice A n c] w fun e w' => e = .returned (.int .u64 lw) ∧ w = w') := ⟨fun ok' A n c w hr hl => by rw [← HLw.out]; exact low_any ok' A n c _ w hr hl HBl.out⟩
  clear hcr hlw
  subst hq
  go_enter Tryd.func18, Tryd.ntmps18
  go_wp2_with fail
  refine H1.out.mono ?_
  rintro e w1 ⟨rfl, rfl⟩
  go_wp2_with fail
  refine H2.out.mono ?_
  rintro e w1 ⟨rfl, rfl⟩
  go_wp2_with fail
  refine (clone_any _ Ap np cp pl w HRp.out HNp.out hlep).mono ?_
  rintro e w5 ⟨v5, rfl, ho5, hb5⟩
  obtain ⟨A5, n5, c5, rfl, hn5, hc5, hr5⟩ := rd_own ho5
  have HB5 := Held.mk hb5
  have HO5 := Held.mk ho5
  have HR5 : Held (∀ W, Below w5.heap.size w5 W → RdN W _ .u8 A5 n5 pl) := ⟨fun W hB => RdV.keep hr5 (Keep.of_below hB (fun _ => False)) (fun _ _ h => h)⟩
  have HRk5 : Held (∀ W, Below w5.heap.size w5 W → RdN W _ .u8 Ak nk ks) := ⟨fun W hB => RdV.keep HRk.out (Keep.of_below (HB5.out.trans (hB.mono HB5.out.size)) (fun _ => False)) (fun _ _ h => h)⟩
  have HRl5 : Held (∀ W, Below w5.heap.size w5 W → RdN W _ .u8 Al nl ls) := ⟨fun W hB => RdV.keep HRl.out (Keep.of_below (HB5.out.trans (hB.mono HB5.out.size)) (fun _ => False)) (fun _ _ h => h)⟩
  have HC7b : Held ((ks.length + n5 + (ks.length + n5) / 4 + 192) * 1 ≤ 281474976710656) := ⟨by rw [hn5.out]; exact HC7.out⟩
  have hB : Below w5.heap.size w5 w5 := Below.refl _ _
  clear ho5 hb5 hr5
  go_wp2_with fail
  go_region_held_law (fun w' => True) (trivial)
    (first
      | (go_at_call 52; refine (clone_any _ Ak nk ck ks _ (HRk5.out _ (by first | exact hB | exact Aps.below_drw hB)) HNk.out hlek).mono ?_; rintro e w6 ⟨v6, rfl, ho6, hb6⟩; have hg6 : ∀ kk, v6.ownBlock = some kk → w5.heap.size ≤ kk := fun kk hh => Nat.le_trans (by first | exact hB.size | exact (Aps.below_drw hB).size) (own_ge ho6 kk hh); have hB := Below.trans (by first | exact hB | exact Aps.below_drw hB) (hb6.mono (by first | exact hB.size | exact (Aps.below_drw hB).size)))
      | (go_at_call 53; refine (hSum.out _ A7 n7 c7 _ (by exact hr7) (Nat.le_trans (Nat.le_of_eq hn7.out) HC8.out)).mono ?_; rintro e w8 ⟨rfl, hb8⟩; have hB := Below.trans (by first | exact hB | exact Aps.below_drw hB) (hb8.mono (by first | exact hB.size | exact (Aps.below_drw hB).size)))
      | (go_at_call 54; refine (hLow.out _ Al nl cl _ (HRl5.out _ (by first | exact hB | exact Aps.below_drw hB)) HNl.out).mono ?_; rintro e wl ⟨rfl, rfl⟩)
      | (refine stepN (o := { dst := some 64, op := Op.call { callee := Callee.builtin Builtin.append, args := #[Operand.tmp 62, Operand.tmp 63], argTypes := #[22, 22] }, type := 22, pos := "wire.go:207", after := #[{ on := 6, ground := Ground.data }, { on := 7, ground := Ground.data }, { on := 6, ground := Ground.chain }], guard := none }) w5.heap.size rfl (.tmp 62) (.tmp 63) 22 5 .u8 1 rfl Tryd.underlying22 info_u8 (by decide) _ ks rfl (by exact own_rebase ho6 hg6) _ A5 n5 c5 pl rfl (HR5.out _ (by first | exact hB | exact Aps.below_drw hB)) (by exact HC7b.out) (by first | exact hB.size | exact (Aps.below_drw hB).size) ?_; intro v7 w7 ho7 hg7 hat7; have hB : Below w5.heap.size w5 w7 := ((Keep.of_below (by first | exact hB | exact Aps.below_drw hB) (fun _ => False)).then (Keep.of_grown hg7) (fun kk hk e => absurd hk (Nat.not_lt.2 (hg6 kk e)))).to_below (fun _ _ h => h); obtain ⟨A7, n7, c7, rfl, hn7, hc7, hr7⟩ := rd_own ho7))
  have HO8 : Held (OwnN w8 w.heap.size 5 .u8 (.slice A5 n5 c5) pl) := ⟨(Keep.of_below hB (fun _ => False)).own HO5.out (fun _ _ h => h)⟩
  have HBw : Held (Below w.heap.size w w8) := ⟨HB5.out.trans (hB.mono HB5.out.size)⟩
  clear hB hb6 ho6 hg6 ho7 hg7 hat7 hr7 hb8
  go_wp2
  (try simp only [Exit.inBlock, Exit.then])
  refine bodyPost_ret (results_tmp4 rfl _ _ _) rfl ?_
  exact ⟨_, rfl, HO8.out, HBw.out⟩
set_option maxHeartbeats 400000 in
set_option maxRecDepth 100000 in
theorem unframe_sum (ok : Nat → Prop) (A Ap Ak Al A1 : Option Addr) (n c sz m x k np cp nk ck nl cl n1 c1 : Nat) (pl ks ls : List Int) (w : World)
    (H1 : Held (Calls Tryd.prog 51 #[.slice A n c] w fun e w' => e = .returned (.tuple #[.int .u64 sz, .int .i64 m, .nilIface]) ∧ w = w'))
    (H2 : Held (Calls Tryd.prog 51 #[.slice A1 n1 c1] w fun e w' => e = .returned (.tuple #[.int .u64 x, .int .i64 k, .nilIface]) ∧ w = w'))
    (hrun1 : ∀ (W : World), (Instr.slice 22 (.slice A n c) (some (.int .i64 (m : Int))) none none).run Tryd.prog W = .ok (.slice A1 n1 c1) W)
    (hrunp : ∀ (W : World), (Instr.slice 22 (.slice A n c) (some (.int .i64 ((m : Int) + (k : Int) + 4))) (some (.int .i64 ((m : Int) + (k : Int) + 4 + (sz : Int)))) none).run Tryd.prog W = .ok (.slice Ap np cp) W)
    (hrunk : ∀ (W : World), (Instr.slice 22 (.slice A n c) (some (.int .i64 (m : Int))) (some (.int .i64 ((m : Int) + (k : Int)))) none).run Tryd.prog W = .ok (.slice Ak nk ck) W)
    (hrunl : ∀ (W : World), (Instr.slice 22 (.slice A n c) (some (.int .i64 ((m : Int) + (k : Int)))) (some (.int .i64 ((m : Int) + (k : Int) + 4))) none).run Tryd.prog W = .ok (.slice Al nl cl) W)
    (hszI : (0 : Int) ≤ sz) (hsI : (sz : Int) ≤ 65536) (hlep : np ≤ cp) (hlek : nk ≤ ck)
    (hw1 : IntKind.i64.wrap ((m : Int) + (k : Int)) = (m : Int) + (k : Int)) (hw2 : IntKind.i64.wrap ((m : Int) + (k : Int) + 4) = (m : Int) + (k : Int) + 4)
    (hw3 : IntKind.i64.wrap ((n : Int) - ((m : Int) + (k : Int) + 4)) = (n : Int) - ((m : Int) + (k : Int) + 4)) (hw4 : IntKind.i64.wrap (sz : Int) = (sz : Int))
    (hw5 : IntKind.i64.wrap ((m : Int) + (k : Int) + 4 + (sz : Int)) = (m : Int) + (k : Int) + 4 + (sz : Int)) (hshI : ¬ (n : Int) - ((m : Int) + (k : Int) + 4) < (sz : Int))
    (HRp : Held (RdN w (fun b => ok b ∧ b < w.heap.size) .u8 Ap np pl)) (HRk : Held (RdN w (fun b => ok b ∧ b < w.heap.size) .u8 Ak nk ks)) (HRl : Held (RdN w (fun b => ok b ∧ b < w.heap.size) .u8 Al nl ls))
    (HNp : Held (np ≤ 225179981368328)) (HNk : Held (nk ≤ 225179981368328)) (HNl : Held (nl ≤ 8)) (HBl : Held (Byt ls)) (HBx : Held (Byt (ks ++ pl)))
    (HC7 : Held ((ks.length + pl.length + (ks.length + pl.length) / 4 + 192) * 1 ≤ 281474976710656)) (HC8 : Held ((ks ++ pl).length ≤ 140737488355328))
    (hq : crc (ks ++ pl) ≠ low ls) (HLc : Held (crc (ks ++ pl) < 4294967296)) (HLl : Held (low ls < 4294967296)) :
    Calls Tryd.prog 18 #[.slice A n c] w fun e w' => ∃ v, e = .returned (.tuple #[.int .u64 0, v, .int .i64 0, Er.enc (.ref wFrame 7)]) ∧ OwnN w' w.heap.size 5 .u8 v [] ∧ Below w.heap.size w w' := by
  generalize hcr : crc (ks ++ pl) = cr at *
  generalize hlw : low ls = lw at *
  have HCr := Held.mk hcr
  have HLw := Held.mk hlw
  have hwl : IntKind.u32.wrap (lw : Int) = (lw : Int) := by have := HLl.out; simp [IntKind.wrap, IntKind.signed, IntKind.bits]; omega
  have hSum : Held (∀ (ok' : Nat → Prop) A n c w, RdN w ok' .u8 A n (ks ++ pl) → n ≤ 140737488355328 → Calls Tryd.prog 53 #[.slice A n c] w fun e w' => e = .returned (.int .u32 cr) ∧ Below w.heap.size w w') := ⟨fun ok' A n c w hr hl => by rw [← HCr.out]; exact sum_any ok' A n c _ w hr hl HBx.out⟩
  have hLow : Held (∀ (ok' : Nat → Prop) A n c w, RdN w ok' .u8 A n ls → n ≤ 8 → Calls Tryd.prog 54 #[.slice A n c] w fun e w' => e = .returned (.int .u64 lw) ∧ w = w') := ⟨fun ok' A n c w hr hl => by rw [← HLw.out]; exact low_any ok' A n c _ w hr hl HBl.out⟩
  clear hcr hlw
  have hq1 : ((cr : Int) != (lw : Int)) = true := bne_iff_ne.2 (fun e => hq (Int.ofNat.inj e))
  have hq2 : ¬ (cr : Int) = (lw : Int) := fun e => hq (Int.ofNat.inj e)
  clear hq
  go_enter Tryd.func18, Tryd.ntmps18
  go_wp2_with fail
  refine H1.out.mono ?_
  rintro e w1 ⟨rfl, rfl⟩
  go_wp2_with fail
  refine H2.out.mono ?_
  rintro e w1 ⟨rfl, rfl⟩
  go_wp2_with fail
  refine (clone_any _ Ap np cp pl w HRp.out HNp.out hlep).mono ?_
  rintro e w5 ⟨v5, rfl, ho5, hb5⟩
  obtain ⟨A5, n5, c5, rfl, hn5, hc5, hr5⟩ := rd_own ho5
  have HB5 := Held.mk hb5
  have HO5 := Held.mk ho5
  have HR5 : Held (∀ W, Below w5.heap.size w5 W → RdN W _ .u8 A5 n5 pl) := ⟨fun W hB => RdV.keep hr5 (Keep.of_below hB (fun _ => False)) (fun _ _ h => h)⟩
  have HRk5 : Held (∀ W, Below w5.heap.size w5 W → RdN W _ .u8 Ak nk ks) := ⟨fun W hB => RdV.keep HRk.out (Keep.of_below (HB5.out.trans (hB.mono HB5.out.size)) (fun _ => False)) (fun _ _ h => h)⟩
  have HRl5 : Held (∀ W, Below w5.heap.size w5 W → RdN W _ .u8 Al nl ls) := ⟨fun W hB => RdV.keep HRl.out (Keep.of_below (HB5.out.trans (hB.mono HB5.out.size)) (fun _ => False)) (fun _ _ h => h)⟩
  have HC7b : Held ((ks.length + n5 + (ks.length + n5) / 4 + 192) * 1 ≤ 281474976710656) := ⟨by rw [hn5.out]; exact HC7.out⟩
  have hB : Below w5.heap.size w5 w5 := Below.refl _ _
  clear ho5 hb5 hr5
  go_wp2_with fail
  go_region_held_law (fun w' => True) (trivial)
    (first
      | (go_at_call 52; refine (clone_any _ Ak nk ck ks _ (HRk5.out _ (by first | exact hB | exact Aps.below_drw hB)) HNk.out hlek).mono ?_; rintro e w6 ⟨v6, rfl, ho6, hb6⟩; have hg6 : ∀ kk, v6.ownBlock = some kk → w5.heap.size ≤ kk := fun kk hh => Nat.le_trans (by first | exact hB.size | exact (Aps.below_drw hB).size) (own_ge ho6 kk hh); have hB := Below.trans (by first | exact hB | exact Aps.below_drw hB) (hb6.mono (by first | exact hB.size | exact (Aps.below_drw hB).size)))
      | (go_at_call 53; refine (hSum.out _ A7 n7 c7 _ (by exact hr7) (Nat.le_trans (Nat.le_of_eq hn7.out) HC8.out)).mono ?_; rintro e w8 ⟨rfl, hb8⟩; have hB := Below.trans (by first | exact hB | exact Aps.below_drw hB) (hb8.mono (by first | exact hB.size | exact (Aps.below_drw hB).size)))
      | (go_at_call 54; refine (hLow.out _ Al nl cl _ (HRl5.out _ (by first | exact hB | exact Aps.below_drw hB)) HNl.out).mono ?_; rintro e wl ⟨rfl, rfl⟩)
      | (refine stepN (o := { dst := some 64, op := Op.call { callee := Callee.builtin Builtin.append, args := #[Operand.tmp 62, Operand.tmp 63], argTypes := #[22, 22] }, type := 22, pos := "wire.go:207", after := #[{ on := 6, ground := Ground.data }, { on := 7, ground := Ground.data }, { on := 6, ground := Ground.chain }], guard := none }) w5.heap.size rfl (.tmp 62) (.tmp 63) 22 5 .u8 1 rfl Tryd.underlying22 info_u8 (by decide) _ ks rfl (by exact own_rebase ho6 hg6) _ A5 n5 c5 pl rfl (HR5.out _ (by first | exact hB | exact Aps.below_drw hB)) (by exact HC7b.out) (by first | exact hB.size | exact (Aps.below_drw hB).size) ?_; intro v7 w7 ho7 hg7 hat7; have hB : Below w5.heap.size w5 w7 := ((Keep.of_below (by first | exact hB | exact Aps.below_drw hB) (fun _ => False)).then (Keep.of_grown hg7) (fun kk hk e => absurd hk (Nat.not_lt.2 (hg6 kk e)))).to_below (fun _ _ h => h); obtain ⟨A7, n7, c7, rfl, hn7, hc7, hr7⟩ := rd_own ho7))
  have HO8 : Held (OwnN w8 w.heap.size 5 .u8 (.slice A5 n5 c5) pl) := ⟨(Keep.of_below hB (fun _ => False)).own HO5.out (fun _ _ h => h)⟩
  have HBw : Held (Below w.heap.size w w8) := ⟨HB5.out.trans (hB.mono HB5.out.size)⟩
  clear hB hb6 ho6 hg6 ho7 hg7 hat7 hr7 hb8
  go_wp2
  (try simp only [Exit.inBlock, Exit.then])
  refine bodyPost_ret (results_tmp4 rfl _ _ _) rfl ?_
  exact ⟨_, rfl, own_nil _ _ _ _, HBw.out⟩
end Wire
end Go.Proofs.YtihgmlcmdpmhhaaDoor
namespace Go.Proofs.YtihgmlcmdpmhhaaDoor
set_option linter.unusedVariables false
namespace Wire
open Go.RowKit Mem
theorem and1 (s : Nat) (h : s < 4294967296) : bits .and .u32 (s : Int) 1 = ((s % 2 : Nat) : Int) := by
  have := u32_and_nat s 1 h (by omega)
  rw [show ((1 : Nat) : Int) = 1 from rfl] at this
  rw [this]
  congr 1
  exact Nat.and_two_pow_sub_one_eq_mod s 1
theorem shrbit (b m : Nat) (h : b < 4294967296) : bits .and .u32 ((b : Int) / 2 ^ m % 4294967296) 1 = ((b / 2 ^ m % 2 : Nat) : Int) := by
  have hlt := Nat.lt_of_le_of_lt (Nat.div_le_self b (2 ^ m)) h
  have := and1 (b / 2 ^ m) hlt
  have e : ((b : Int) / 2 ^ m) = ((b / 2 ^ m : Nat) : Int) := by rw [Int.natCast_ediv, Int.natCast_pow]; rfl
  rw [e]
  generalize b / 2 ^ m = q at *
  rw [Int.emod_eq_of_lt (by omega) (by omega)]
  exact this
set_option maxHeartbeats 2000000 in
set_option maxRecDepth 100000 in
theorem refSum_any (ok : Nat → Prop) (A : Option Addr) (n c : Nat) (xs : List Int) (w : World) (hr : RdN w ok .u8 A n xs) (hl : n ≤ 140737488355328) (hb : Byt xs) :
    Calls Tryd.prog 50 #[.slice A n c] w fun e w' => e = .returned (.int .u32 (crc xs)) ∧ w = w' := by
  have h1 := Held.mk hr.len
  have Hr := Held.mk hr
  have Hb := Held.mk hb
  clear hr hb
  go_enter Tryd.func50, Tryd.ntmps50
  go_wp2
  go_loop [3, 4] (fun s i => ∃ k : Nat, i = .int .i64 k ∧ k ≤ n ∧ s = .int .u32 (sumT (nats (xs.take k)))) (fun _ i => n - (intOf i).toNat)
  case atStart => exact ⟨0, rfl, Nat.zero_le _, rfl⟩
  case round =>
    obtain ⟨k, rfl, hk, rfl⟩ := hrel
    by_cases hlt : k < n
    · obtain ⟨ad, rfl, hc⟩ := Hr.out.at_ hlt
      have hcb := Hb.out.getD k
      generalize hy : xs.getD k 0 = y at *
      have Hy := Held.mk hy
      clear hy
      obtain ⟨b, rfl⟩ := Int.eq_ofNat_of_zero_le hcb.1
      have hs : xs.take (k + 1) = xs.take k ++ [(b : Int)] := by
        rw [List.take_succ_eq_append_getElem (by rw [h1.out]; exact hlt), ← Hy.out, List.getD_eq_getElem?_getD, List.getElem?_eq_getElem (by rw [h1.out]; exact hlt)]; rfl
      have hsl := sumT_byt _ (Hb.out.take k)
      have Hn : Held (sumT (nats (xs.take (k + 1))) = bitsB (sumT (nats (xs.take k))) b 8) := ⟨by rw [hs, nats_snoc, sumT_snoc, sumB_eq _ _ (by omega)]⟩
      clear hs
      generalize sumT (nats (xs.take k)) = s at *
      go_wp2
      go_loop [3, 5] (fun s' j => ∃ m : Nat, j = .int .i64 m ∧ m ≤ 8 ∧ s' = .int .u32 (bitsB s b m : Nat)) (fun _ j => 8 - (intOf j).toNat)
      case atStart => exact ⟨0, rfl, by omega, rfl⟩
      case round =>
        obtain ⟨m, rfl, hm, rfl⟩ := hrel
        have hml := bitsB_lt s b m hsl
        by_cases hm8 : m < 8
        · have ha := and1 (bitsB s b m) hml
          have hb1 := shrbit b m (by omega)
          have hnx : Held (bitsB s b (m + 1) = bitB (bitsB s b m) b m) := ⟨rfl⟩
          have hx := u32_xor_nat (bitsB s b m / 2) 2197175160 (by omega) (by omega)
          rw [show (((bitsB s b m / 2 : Nat)) : Int) = ((bitsB s b m : Nat) : Int) / 2 from by omega] at hx
          unfold bitB poly at hnx
          generalize bitsB s b m = t at *
          generalize hu : t % 2 = u at *
          generalize hv : b / 2 ^ m % 2 = v at *
          clear hu hv
          by_cases he : u = v
          · rw [if_pos he, Nat.xor_zero] at hnx
            have hne : ((u : Int) != v) = false := by simp [he]
            clear he
            go_wp2
            go_round
            case rel => exact ⟨m + 1, by go_num, by omega, by rw [hnx.out, Int.natCast_ediv]; rfl⟩
            case measure => simp [intOf]; omega
          · rw [if_neg he] at hnx
            have hne : ((u : Int) != v) = true := by rw [bne_iff_ne]; omega
            clear he
            go_wp2
            go_round
            case rel => exact ⟨m + 1, by go_num, by omega, by rw [hnx.out]; exact congrArg (Value.int .u32) hx⟩
            case measure => simp [intOf]; omega
        · obtain rfl : m = 8 := by omega
          go_wp2
          go_round
          case rel => exact ⟨k + 1, by go_num, by omega, by rw [Hn.out]⟩
          case measure => simp [intOf]; omega
    · have ek : xs.take k = xs := List.take_of_length_le (by rw [h1.out]; omega)
      have hsl := sumT_byt _ (Hb.out.take k)
      rw [ek] at hsl ⊢
      clear ek
      have hfin := Held.mk (show bits .xor .u32 ((sumT (nats xs) : Nat) : Int) 4294967295 = (crc xs : Nat) from u32_xor_nat (sumT (nats xs)) 4294967295 hsl (by omega))
      go_wp2
      go_ret
      rw [← hfin.out]
      exact ⟨rfl, rfl⟩
end Wire
end Go.Proofs.YtihgmlcmdpmhhaaDoor

/- The document's Unframe, of a whole frame: walked. -/
namespace Go.Proofs.YtihgmlcmdpmhhaaDoor
set_option linter.unusedVariables false
set_option linter.unusedSimpArgs false
namespace Wire
open Go.RowKit Mem Apn
set_option maxHeartbeats 2000000 in
set_option maxRecDepth 100000 in
theorem runframe_ok (ok : Nat → Prop) (A Ap Ak Al A1 : Option Addr) (n c sz m x k np cp nk ck nl cl n1 c1 : Nat) (pl ks ls : List Int) (w : World)
    (H1 : Held (Calls Tryd.prog 47 #[.slice A n c] w fun e w' => e = .returned (.tuple #[.int .u64 sz, .int .i64 m, .int .i64 0]) ∧ w = w'))
    (H2 : Held (Calls Tryd.prog 47 #[.slice A1 n1 c1] w fun e w' => e = .returned (.tuple #[.int .u64 x, .int .i64 k, .int .i64 0]) ∧ w = w'))
    (hrun1 : ∀ (W : World), (Instr.slice 22 (.slice A n c) (some (.int .i64 (m : Int))) none none).run Tryd.prog W = .ok (.slice A1 n1 c1) W)
    (hrunp : ∀ (W : World), (Instr.slice 22 (.slice A n c) (some (.int .i64 ((m : Int) + (k : Int) + 4))) (some (.int .i64 ((m : Int) + (k : Int) + 4 + (sz : Int)))) none).run Tryd.prog W = .ok (.slice Ap np cp) W)
    (hrunk : ∀ (W : World), (Instr.slice 22 (.slice A n c) (some (.int .i64 (m : Int))) (some (.int .i64 ((m : Int) + (k : Int)))) none).run Tryd.prog W = .ok (.slice Ak nk ck) W)
    (hrunl : ∀ (W : World), (Instr.slice 22 (.slice A n c) (some (.int .i64 ((m : Int) + (k : Int)))) (some (.int .i64 ((m : Int) + (k : Int) + 4))) none).run Tryd.prog W = .ok (.slice Al nl cl) W)
    (hszI : (0 : Int) ≤ sz) (hsI : (sz : Int) ≤ 65536) (hlep : np ≤ cp) (hlek : nk ≤ ck)
    (hw1 : IntKind.i64.wrap ((m : Int) + (k : Int)) = (m : Int) + (k : Int)) (hw2 : IntKind.i64.wrap ((m : Int) + (k : Int) + 4) = (m : Int) + (k : Int) + 4) (hw4 : IntKind.i64.wrap (sz : Int) = (sz : Int))
    (hw5 : IntKind.i64.wrap ((m : Int) + (k : Int) + 4 + (sz : Int)) = (m : Int) + (k : Int) + 4 + (sz : Int)) (hshI : (m : Int) + (k : Int) + 4 + (sz : Int) ≤ (n : Int)) (hshJ : (m : Int) + (k : Int) + 4 ≤ (n : Int))
    (HRp : Held (RdN w (fun b => ok b ∧ b < w.heap.size) .u8 Ap np pl)) (HRk : Held (RdN w (fun b => ok b ∧ b < w.heap.size) .u8 Ak nk ks)) (HRl : Held (RdN w (fun b => ok b ∧ b < w.heap.size) .u8 Al nl ls))
    (HNp : Held (np ≤ 1000000)) (HNk : Held (nk ≤ 1000000)) (HNl : Held (nl ≤ 8)) (HBx : Held (Byt (ks ++ pl)))
    (HC7 : Held ((ks.length + pl.length + (ks.length + pl.length) / 4 + 192) * 1 ≤ 281474976710656)) (HC8 : Held ((ks ++ pl).length ≤ 140737488355328))
    (HLc : Held (crc (ks ++ pl) < 4294967296)) (HSq : Held (decide (hi (crc (ks ++ pl)) 4 = ls) = true)) :
    Calls Tryd.prog 17 #[.slice A n c] w fun e w' => ∃ v, e = .returned (.tuple #[.int .u64 x, v, .int .i64 ((m : Int) + (k : Int) + 4 + (sz : Int)), .int .i64 0]) ∧ OwnN w' w.heap.size 5 .u8 v pl ∧ Below w.heap.size w w' := by
  generalize hcr : crc (ks ++ pl) = cr at *
  have HCr := Held.mk hcr
  have HSum : Held (∀ (ok' : Nat → Prop) A n c w, RdN w ok' .u8 A n (ks ++ pl) → n ≤ 140737488355328 → Calls Tryd.prog 50 #[.slice A n c] w fun e w' => e = .returned (.int .u32 cr) ∧ w = w') := ⟨fun ok' A n c w hr hl => by rw [← HCr.out]; exact refSum_any ok' A n c _ w hr hl HBx.out⟩
  have HSm : Held (∀ (o1 o2 : Nat → Prop) A9 n9 c9 W, RdN W o1 .u8 A9 n9 (hi cr 4) → RdN W o2 .u8 Al nl ls → Calls Tryd.prog 20 #[.slice A9 n9 c9, .slice Al nl cl] W fun e w' => e = .returned (.bool true) ∧ ∃ m, w' = W.drewN m) := ⟨fun o1 o2 A9 n9 c9 W h1 h2 => by
    have h := Kit.same_any o1 o2 A9 Al n9 nl c9 cl (hi cr 4) ls W h1 h2 (by have := h1.len; rw [hi_length] at this; omega) (by have := HNl.out; omega)
    rw [HSq.out] at h
    exact h⟩
  clear hcr
  go_enter Tryd.func17, Tryd.ntmps17
  go_wp2_with fail
  refine H1.out.mono ?_
  rintro e w1 ⟨rfl, rfl⟩
  go_wp2_with fail
  refine H2.out.mono ?_
  rintro e w1 ⟨rfl, rfl⟩
  go_wp2_with fail
  refine (copy_any _ Ak nk ck ks w HRk.out (by have := HNk.out; omega)).mono ?_
  rintro e w3 ⟨v3, rfl, ho3, hb3⟩
  have HO3 := Held.mk ho3
  have HB3 := Held.mk hb3
  have HRp3 : Held (RdN w3 _ .u8 Ap np pl) := ⟨RdV.keep HRp.out (Keep.of_below hb3 (fun _ => False)) (fun _ _ h => h)⟩
  clear ho3 hb3
  go_wp2_with fail
  refine (copy_any _ Ap np cp pl w3 HRp3.out (by have := HNp.out; omega)).mono ?_
  rintro e w4 ⟨v4, rfl, ho4, hb4⟩
  have HO4 := Held.mk ho4
  have HB34 := Held.mk hb4
  have HO34 := Held.mk ((Keep.of_below hb4 (fun _ => False)).own HO3.out (fun _ _ h => h))
  obtain ⟨A4, n4, c4, rfl, hn4, hc4, hr4⟩ := rd_own ho4
  have HR4 := Held.mk hr4
  have HC7b : Held ((ks.length + n4 + (ks.length + n4) / 4 + 192) * 1 ≤ 281474976710656) := ⟨by rw [hn4.out]; exact HC7.out⟩
  have HSz4 : Held (w.heap.size ≤ w4.heap.size) := ⟨Nat.le_trans HB3.out.size hb4.size⟩
  clear ho4 hb4 hr4
  go_wp2_with ((at_builtin; go_loud (refine appN w.heap.size rfl (.tmp 69) (.tmp 70) 22 5 .u8 1 rfl Tryd.underlying22 info_u8 (by decide) _ ks rfl HO34.out _ A4 n4 c4 pl rfl HR4.out HC7b.out HSz4.out ?_)); (intro v6 w6 ho6 hg6 hat6); (have HO6 := Held.mk ho6); (have HG6 := Held.mk hg6); (clear ho6 hg6 hat6))
  have HB6 : Held (Below w.heap.size w w6) := ⟨((Keep.of_below (HB3.out.trans (HB34.out.mono HB3.out.size)) (fun _ => False)).then (Keep.of_grown HG6.out) (fun kk hk e => by have := own_ge HO34.out kk e; omega)).to_below (fun _ _ h => h)⟩
  have HO46 : Held (OwnN w6 w.heap.size 5 .u8 (.slice A4 n4 c4) pl) := ⟨own_rebase ((Keep.of_grown HG6.out).own HO4.out (fun kk h1 h2 => by have := own_ge HO4.out kk h1; have := own_lt HO3.out kk h2; omega)) (fun kk hk => by have := own_ge HO4.out kk hk; have := HB3.out.size; omega)⟩
  obtain ⟨A6, n6, c6, rfl, hn6, hc6, hr6⟩ := rd_own HO6.out
  have HR6 : Held (∀ W, Below w6.heap.size w6 W → RdN W _ .u8 A6 n6 (ks ++ pl)) := ⟨fun W hB => RdV.keep hr6 (Keep.of_below hB (fun _ => False)) (fun _ _ h => h)⟩
  have HRl6 : Held (∀ W, Below w6.heap.size w6 W → RdN W _ .u8 Al nl ls) := ⟨fun W hB => RdV.keep HRl.out (Keep.of_below (HB6.out.trans (hB.mono HB6.out.size)) (fun _ => False)) (fun _ _ h => h)⟩
  have HL6 : Held (n6 ≤ 140737488355328) := ⟨Nat.le_trans (Nat.le_of_eq hn6.out) HC8.out⟩
  have hB : Below w6.heap.size w6 w6 := Below.refl _ _
  clear hr6
  go_wp2_with fail
  go_region_held3 (fun w' => True) (trivial)
    (first
      | (go_at_call 50; refine (HSum.out _ A6 n6 c6 _ (HR6.out _ (by first | exact hB | exact Aps.below_drw hB)) HL6.out).mono ?_; rintro e w7 ⟨rfl, rfl⟩)
      | (go_at_call 49; refine (rputsum_any w6.heap.size _ [] cr _ HLc.out (by simp) (own_nil _ _ _ _) (by first | exact hB.size | exact (Aps.below_drw hB).size)).mono ?_; rintro e w8 ⟨v8, rfl, ho8, hg8⟩; rw [List.nil_append] at ho8; have hB : Below w6.heap.size w6 w8 := ((Keep.of_below (by first | exact hB | exact Aps.below_drw hB) (fun _ => False)).then (Keep.of_grown hg8) (fun kk hk e => by simp [Value.ownBlock] at e)).to_below (fun _ _ h => h); obtain ⟨A8, n8, c8, rfl, hn8, hc8, hr8⟩ := rd_own ho8)
      | (go_at_call 20; refine (HSm.out _ _ A8 n8 c8 _ (by exact hr8) (HRl6.out _ (by first | exact hB | exact Aps.below_drw hB))).mono ?_; rintro e w9 ⟨rfl, m9, rfl⟩; have hB := Aps.below_drwN (by first | exact hB | exact Aps.below_drw hB) m9))
  have HOe := Held.mk ((Keep.of_below hB (fun _ => False)).own HO46.out (fun _ _ h => h))
  have HBe := Held.mk (HB6.out.trans (hB.mono HB6.out.size))
  clear hB ho8 hg8 hr8
  go_wp2
  (try simp only [Exit.inBlock, Exit.then])
  refine bodyPost_ret (results_tmp4 rfl _ _ _) rfl ?_
  exact ⟨_, rfl, HOe.out, HBe.out⟩
set_option maxHeartbeats 2000000 in
set_option maxRecDepth 100000 in
theorem runframe_sum (ok : Nat → Prop) (A Ap Ak Al A1 : Option Addr) (n c sz m x k np cp nk ck nl cl n1 c1 : Nat) (pl ks ls : List Int) (w : World)
    (H1 : Held (Calls Tryd.prog 47 #[.slice A n c] w fun e w' => e = .returned (.tuple #[.int .u64 sz, .int .i64 m, .int .i64 0]) ∧ w = w'))
    (H2 : Held (Calls Tryd.prog 47 #[.slice A1 n1 c1] w fun e w' => e = .returned (.tuple #[.int .u64 x, .int .i64 k, .int .i64 0]) ∧ w = w'))
    (hrun1 : ∀ (W : World), (Instr.slice 22 (.slice A n c) (some (.int .i64 (m : Int))) none none).run Tryd.prog W = .ok (.slice A1 n1 c1) W)
    (hrunp : ∀ (W : World), (Instr.slice 22 (.slice A n c) (some (.int .i64 ((m : Int) + (k : Int) + 4))) (some (.int .i64 ((m : Int) + (k : Int) + 4 + (sz : Int)))) none).run Tryd.prog W = .ok (.slice Ap np cp) W)
    (hrunk : ∀ (W : World), (Instr.slice 22 (.slice A n c) (some (.int .i64 (m : Int))) (some (.int .i64 ((m : Int) + (k : Int)))) none).run Tryd.prog W = .ok (.slice Ak nk ck) W)
    (hrunl : ∀ (W : World), (Instr.slice 22 (.slice A n c) (some (.int .i64 ((m : Int) + (k : Int)))) (some (.int .i64 ((m : Int) + (k : Int) + 4))) none).run Tryd.prog W = .ok (.slice Al nl cl) W)
    (hszI : (0 : Int) ≤ sz) (hsI : (sz : Int) ≤ 65536) (hlep : np ≤ cp) (hlek : nk ≤ ck)
    (hw1 : IntKind.i64.wrap ((m : Int) + (k : Int)) = (m : Int) + (k : Int)) (hw2 : IntKind.i64.wrap ((m : Int) + (k : Int) + 4) = (m : Int) + (k : Int) + 4) (hw4 : IntKind.i64.wrap (sz : Int) = (sz : Int))
    (hw5 : IntKind.i64.wrap ((m : Int) + (k : Int) + 4 + (sz : Int)) = (m : Int) + (k : Int) + 4 + (sz : Int)) (hshI : (m : Int) + (k : Int) + 4 + (sz : Int) ≤ (n : Int)) (hshJ : (m : Int) + (k : Int) + 4 ≤ (n : Int))
    (HRp : Held (RdN w (fun b => ok b ∧ b < w.heap.size) .u8 Ap np pl)) (HRk : Held (RdN w (fun b => ok b ∧ b < w.heap.size) .u8 Ak nk ks)) (HRl : Held (RdN w (fun b => ok b ∧ b < w.heap.size) .u8 Al nl ls))
    (HNp : Held (np ≤ 1000000)) (HNk : Held (nk ≤ 1000000)) (HNl : Held (nl ≤ 8)) (HBx : Held (Byt (ks ++ pl)))
    (HC7 : Held ((ks.length + pl.length + (ks.length + pl.length) / 4 + 192) * 1 ≤ 281474976710656)) (HC8 : Held ((ks ++ pl).length ≤ 140737488355328))
    (HLc : Held (crc (ks ++ pl) < 4294967296)) (HSq : Held (decide (hi (crc (ks ++ pl)) 4 = ls) = false)) :
    Calls Tryd.prog 17 #[.slice A n c] w fun e w' => ∃ v, e = .returned (.tuple #[.int .u64 0, v, .int .i64 0, .int .i64 7]) ∧ OwnN w' w.heap.size 5 .u8 v [] ∧ Below w.heap.size w w' := by
  generalize hcr : crc (ks ++ pl) = cr at *
  have HCr := Held.mk hcr
  have HSum : Held (∀ (ok' : Nat → Prop) A n c w, RdN w ok' .u8 A n (ks ++ pl) → n ≤ 140737488355328 → Calls Tryd.prog 50 #[.slice A n c] w fun e w' => e = .returned (.int .u32 cr) ∧ w = w') := ⟨fun ok' A n c w hr hl => by rw [← HCr.out]; exact refSum_any ok' A n c _ w hr hl HBx.out⟩
  have HSm : Held (∀ (o1 o2 : Nat → Prop) A9 n9 c9 W, RdN W o1 .u8 A9 n9 (hi cr 4) → RdN W o2 .u8 Al nl ls → Calls Tryd.prog 20 #[.slice A9 n9 c9, .slice Al nl cl] W fun e w' => e = .returned (.bool false) ∧ ∃ m, w' = W.drewN m) := ⟨fun o1 o2 A9 n9 c9 W h1 h2 => by
    have h := Kit.same_any o1 o2 A9 Al n9 nl c9 cl (hi cr 4) ls W h1 h2 (by have := h1.len; rw [hi_length] at this; omega) (by have := HNl.out; omega)
    rw [HSq.out] at h
    exact h⟩
  clear hcr
  go_enter Tryd.func17, Tryd.ntmps17
  go_wp2_with fail
  refine H1.out.mono ?_
  rintro e w1 ⟨rfl, rfl⟩
  go_wp2_with fail
  refine H2.out.mono ?_
  rintro e w1 ⟨rfl, rfl⟩
  go_wp2_with fail
  refine (copy_any _ Ak nk ck ks w HRk.out (by have := HNk.out; omega)).mono ?_
  rintro e w3 ⟨v3, rfl, ho3, hb3⟩
  have HO3 := Held.mk ho3
  have HB3 := Held.mk hb3
  have HRp3 : Held (RdN w3 _ .u8 Ap np pl) := ⟨RdV.keep HRp.out (Keep.of_below hb3 (fun _ => False)) (fun _ _ h => h)⟩
  clear ho3 hb3
  go_wp2_with fail
  refine (copy_any _ Ap np cp pl w3 HRp3.out (by have := HNp.out; omega)).mono ?_
  rintro e w4 ⟨v4, rfl, ho4, hb4⟩
  have HO4 := Held.mk ho4
  have HB34 := Held.mk hb4
  have HO34 := Held.mk ((Keep.of_below hb4 (fun _ => False)).own HO3.out (fun _ _ h => h))
  obtain ⟨A4, n4, c4, rfl, hn4, hc4, hr4⟩ := rd_own ho4
  have HR4 := Held.mk hr4
  have HC7b : Held ((ks.length + n4 + (ks.length + n4) / 4 + 192) * 1 ≤ 281474976710656) := ⟨by rw [hn4.out]; exact HC7.out⟩
  have HSz4 : Held (w.heap.size ≤ w4.heap.size) := ⟨Nat.le_trans HB3.out.size hb4.size⟩
  clear ho4 hb4 hr4
  go_wp2_with ((at_builtin; go_loud (refine appN w.heap.size rfl (.tmp 69) (.tmp 70) 22 5 .u8 1 rfl Tryd.underlying22 info_u8 (by decide) _ ks rfl HO34.out _ A4 n4 c4 pl rfl HR4.out HC7b.out HSz4.out ?_)); (intro v6 w6 ho6 hg6 hat6); (have HO6 := Held.mk ho6); (have HG6 := Held.mk hg6); (clear ho6 hg6 hat6))
  have HB6 : Held (Below w.heap.size w w6) := ⟨((Keep.of_below (HB3.out.trans (HB34.out.mono HB3.out.size)) (fun _ => False)).then (Keep.of_grown HG6.out) (fun kk hk e => by have := own_ge HO34.out kk e; omega)).to_below (fun _ _ h => h)⟩
  have HO46 : Held (OwnN w6 w.heap.size 5 .u8 (.slice A4 n4 c4) pl) := ⟨own_rebase ((Keep.of_grown HG6.out).own HO4.out (fun kk h1 h2 => by have := own_ge HO4.out kk h1; have := own_lt HO3.out kk h2; omega)) (fun kk hk => by have := own_ge HO4.out kk hk; have := HB3.out.size; omega)⟩
  obtain ⟨A6, n6, c6, rfl, hn6, hc6, hr6⟩ := rd_own HO6.out
  have HR6 : Held (∀ W, Below w6.heap.size w6 W → RdN W _ .u8 A6 n6 (ks ++ pl)) := ⟨fun W hB => RdV.keep hr6 (Keep.of_below hB (fun _ => False)) (fun _ _ h => h)⟩
  have HRl6 : Held (∀ W, Below w6.heap.size w6 W → RdN W _ .u8 Al nl ls) := ⟨fun W hB => RdV.keep HRl.out (Keep.of_below (HB6.out.trans (hB.mono HB6.out.size)) (fun _ => False)) (fun _ _ h => h)⟩
  have HL6 : Held (n6 ≤ 140737488355328) := ⟨Nat.le_trans (Nat.le_of_eq hn6.out) HC8.out⟩
  have hB : Below w6.heap.size w6 w6 := Below.refl _ _
  clear hr6
  go_wp2_with fail
  go_region_held3 (fun w' => True) (trivial)
    (first
      | (go_at_call 50; refine (HSum.out _ A6 n6 c6 _ (HR6.out _ (by first | exact hB | exact Aps.below_drw hB)) HL6.out).mono ?_; rintro e w7 ⟨rfl, rfl⟩)
      | (go_at_call 49; refine (rputsum_any w6.heap.size _ [] cr _ HLc.out (by simp) (own_nil _ _ _ _) (by first | exact hB.size | exact (Aps.below_drw hB).size)).mono ?_; rintro e w8 ⟨v8, rfl, ho8, hg8⟩; rw [List.nil_append] at ho8; have hB : Below w6.heap.size w6 w8 := ((Keep.of_below (by first | exact hB | exact Aps.below_drw hB) (fun _ => False)).then (Keep.of_grown hg8) (fun kk hk e => by simp [Value.ownBlock] at e)).to_below (fun _ _ h => h); obtain ⟨A8, n8, c8, rfl, hn8, hc8, hr8⟩ := rd_own ho8)
      | (go_at_call 20; refine (HSm.out _ _ A8 n8 c8 _ (by exact hr8) (HRl6.out _ (by first | exact hB | exact Aps.below_drw hB))).mono ?_; rintro e w9 ⟨rfl, m9, rfl⟩; have hB := Aps.below_drwN (by first | exact hB | exact Aps.below_drw hB) m9))
  have HOe := Held.mk ((Keep.of_below hB (fun _ => False)).own HO46.out (fun _ _ h => h))
  have HBe := Held.mk (HB6.out.trans (hB.mono HB6.out.size))
  clear hB ho8 hg8 hr8
  go_wp2
  (try simp only [Exit.inBlock, Exit.then])
  refine bodyPost_ret (results_tmp4 rfl _ _ _) rfl ?_
  exact ⟨_, rfl, own_nil _ _ _ _, HBe.out⟩
end Wire
end Go.Proofs.YtihgmlcmdpmhhaaDoor
/- The document's Unframe: what it answers. -/
namespace Go.Proofs.YtihgmlcmdpmhhaaDoor
set_option linter.unusedVariables false
set_option linter.unusedSimpArgs false
namespace Wire
open Go.RowKit Mem Apn
theorem num_err1 (b : List Int) (k : Int) (h : (num b).2.2 = .no k) : k = 2 := by
  cases b with
  | nil => simp [num] at h; omega
  | cons c l =>
    rw [num_cons] at h
    (repeat' split at h) <;> simp at h
    omega
theorem num_err2 (b : List Int) (s : ByteArray) (k : Int) (h : (num b).2.2 = .ref s k) : k = 4 := by
  cases b with
  | nil => simp [num] at h
  | cons c l =>
    rw [num_cons] at h
    (repeat' split at h) <;> simp at h
    omega
set_option maxHeartbeats 600000 in
set_option maxRecDepth 100000 in
theorem runframe_any (ok : Nat → Prop) (A : Option Addr) (n c : Nat) (b : List Int) (w : World) (hr : RdN w ok .u8 A n b) (hc : n ≤ c) (hl : n ≤ 281474976710656) (hb : Byt b) :
    Calls Tryd.prog 17 #[.slice A n c] w fun e w' => ∃ v, e = .returned (.tuple #[.int .u64 (unf b).1, v, .int .i64 (unf b).2.2.1, .int .i64 (Er.code (unf b).2.2.2)]) ∧ OwnN w' w.heap.size 5 .u8 v (unf b).2.1 ∧ Below w.heap.size w w' := by
  have hlen := hr.len
  obtain ⟨sz, m, e1, he⟩ : ∃ sz m e, num b = (sz, m, e) := ⟨_, _, _, rfl⟩
  have H1 := Held.mk (runum_any ok A n c b w hr hl hb)
  have hm := num_le b
  have hsz := num_U64 b hb
  rw [he] at H1 hm hsz
  simp only at hm hsz
  have bad1 : ∀ (j : Int), e1.code = j → ¬ j = 0 → e1 ≠ .ok → Calls Tryd.prog 17 #[.slice A n c] w fun e w' => ∃ v, e = .returned (.tuple #[.int .u64 (unf b).1, v, .int .i64 (unf b).2.2.1, .int .i64 (Er.code (unf b).2.2.2)]) ∧ OwnN w' w.heap.size 5 .u8 v (unf b).2.1 ∧ Below w.heap.size w w' := by
    intro j hT hj hne
    rw [unf_bad1 he hne]
    unfold numR at H1
    simp only [hT] at H1 ⊢
    clear hlen hr hb he hm hsz hne hT
    go_enter Tryd.func17, Tryd.ntmps17
    go_wp2_with fail
    refine H1.out.mono ?_
    rintro e w1 ⟨rfl, rfl⟩
    go_wp2
    (try simp only [Exit.inBlock, Exit.then])
    refine bodyPost_ret (results_tmp4 rfl _ _ _) rfl ?_
    exact ⟨_, rfl, own_nil _ _ _ _, Below.refl _ _⟩
  cases e1 with
  | no k => exact bad1 k rfl (by have := num_err1 b k (by rw [he]); omega) (by simp)
  | ref s k => exact bad1 k rfl (by have := num_err2 b s k (by rw [he]); omega) (by simp)
  | ok =>
    clear bad1
    have hszI : (0 : Int) ≤ sz := by omega
    unfold numR Er.code at H1
    simp only at H1
    by_cases hs : 65536 < sz
    · rw [unf_many he hs]
      have hsI : (65536 : Int) < (sz : Int) := by omega
      clear hlen hr hb he hm hsz hs
      go_enter Tryd.func17, Tryd.ntmps17
      go_wp2_with fail
      refine H1.out.mono ?_
      rintro e w1 ⟨rfl, rfl⟩
      go_wp2
      (try simp only [Exit.inBlock, Exit.then])
      refine bodyPost_ret (results_tmp4 rfl _ _ _) rfl ?_
      exact ⟨_, rfl, own_nil _ _ _ _, Below.refl _ _⟩
    · have hsI : (sz : Int) ≤ 65536 := by omega
      obtain ⟨A1, n1, c1, hn1, hle1, hrun1, hrd1⟩ := cutF (P := Tryd.prog) 22 5 .i64 Tryd.underlying22 info_size A n c m (by omega) hc
      have hr1 : RdN w ok .u8 A1 n1 (b.drop m) := RdV.nums_drop (hrd1 w ok _ hr)
      obtain ⟨x, k, e2, he2⟩ : ∃ x k e, num (b.drop m) = (x, k, e) := ⟨_, _, _, rfl⟩
      have H2 := Held.mk (runum_any ok A1 n1 c1 (b.drop m) w hr1 (by have := hn1.out; omega) (hb.drop m))
      have hk := num_le (b.drop m)
      have hxU := num_U64 (b.drop m) (hb.drop m)
      rw [he2] at H2 hk hxU
      simp only [List.length_drop] at hk hxU
      have bad2 : ∀ (j : Int), e2.code = j → ¬ j = 0 → e2 ≠ .ok → Calls Tryd.prog 17 #[.slice A n c] w fun e w' => ∃ v, e = .returned (.tuple #[.int .u64 (unf b).1, v, .int .i64 (unf b).2.2.1, .int .i64 (Er.code (unf b).2.2.2)]) ∧ OwnN w' w.heap.size 5 .u8 v (unf b).2.1 ∧ Below w.heap.size w w' := by
        intro j hT hj hne
        rw [unf_bad2 he hs he2 hne]
        unfold numR at H2
        simp only [hT] at H2 ⊢
        clear hlen hr hb he hm hsz hne hT hk hxU hr1 hrd1 hs he2
        go_enter Tryd.func17, Tryd.ntmps17
        go_wp2_with fail
        refine H1.out.mono ?_
        rintro e w1 ⟨rfl, rfl⟩
        go_wp2_with fail
        refine H2.out.mono ?_
        rintro e w1 ⟨rfl, rfl⟩
        go_wp2
        (try simp only [Exit.inBlock, Exit.then])
        refine bodyPost_ret (results_tmp4 rfl _ _ _) rfl ?_
        exact ⟨_, rfl, own_nil _ _ _ _, Below.refl _ _⟩
      cases e2 with
      | no k => exact bad2 k rfl (by have := num_err1 (b.drop m) k (by rw [he2]); omega) (by simp)
      | ref s k => exact bad2 k rfl (by have := num_err2 (b.drop m) s k (by rw [he2]); omega) (by simp)
      | ok =>
        clear bad2
        unfold numR Er.code at H2
        simp only at H2
        rw [unf_good he hs he2]
        have hw1 : IntKind.i64.wrap ((m : Int) + (k : Int)) = (m : Int) + (k : Int) := IntWalk.i64_in _ ⟨by omega, by omega⟩
        have hw2 : IntKind.i64.wrap ((m : Int) + (k : Int) + 4) = (m : Int) + (k : Int) + 4 := IntWalk.i64_in _ ⟨by omega, by omega⟩
        have hw3 : IntKind.i64.wrap ((n : Int) - ((m : Int) + (k : Int) + 4)) = (n : Int) - ((m : Int) + (k : Int) + 4) := IntWalk.i64_in _ ⟨by omega, by omega⟩
        have hw4 : IntKind.i64.wrap (sz : Int) = (sz : Int) := IntWalk.i64_in _ ⟨by omega, by omega⟩
        by_cases hsh : b.length < m + k + 4 + sz
        · rw [if_pos hsh]
          by_cases hs4 : n < m + k + 4
          · have hI : (n : Int) < (m : Int) + (k : Int) + 4 := by omega
            clear hlen hr hb he hm hsz hk hxU hr1 hrd1 hs he2 hsh
            go_enter Tryd.func17, Tryd.ntmps17
            go_wp2_with fail
            refine H1.out.mono ?_
            rintro e w1 ⟨rfl, rfl⟩
            go_wp2_with fail
            refine H2.out.mono ?_
            rintro e w1 ⟨rfl, rfl⟩
            go_wp2
            (try simp only [Exit.inBlock, Exit.then])
            refine bodyPost_ret (results_tmp4 rfl _ _ _) rfl ?_
            exact ⟨_, rfl, own_nil _ _ _ _, Below.refl _ _⟩
          · have hI : ¬ (n : Int) < (m : Int) + (k : Int) + 4 := by omega
            have hJ : (n : Int) < (m : Int) + (k : Int) + 4 + (sz : Int) := by omega
            have hw5 : IntKind.i64.wrap ((m : Int) + (k : Int) + 4 + (sz : Int)) = (m : Int) + (k : Int) + 4 + (sz : Int) := IntWalk.i64_in _ ⟨by omega, by omega⟩
            clear hlen hr hb he hm hsz hk hxU hr1 hrd1 hs he2 hsh
            go_enter Tryd.func17, Tryd.ntmps17
            go_wp2_with fail
            refine H1.out.mono ?_
            rintro e w1 ⟨rfl, rfl⟩
            go_wp2_with fail
            refine H2.out.mono ?_
            rintro e w1 ⟨rfl, rfl⟩
            go_wp2
            (try simp only [Exit.inBlock, Exit.then])
            refine bodyPost_ret (results_tmp4 rfl _ _ _) rfl ?_
            exact ⟨_, rfl, own_nil _ _ _ _, Below.refl _ _⟩
        · rw [if_neg hsh]
          have hk9 : k ≤ 9 := by
            obtain ⟨f1, _, f2, _⟩ := form_num (b.drop m) (hb.drop m) x k he2
            have := form_length x f1
            omega
          have hshI : (m : Int) + (k : Int) + 4 + (sz : Int) ≤ (n : Int) := by omega
          have hshJ : (m : Int) + (k : Int) + 4 ≤ (n : Int) := by omega
          have hw5 : IntKind.i64.wrap ((m : Int) + (k : Int) + 4 + (sz : Int)) = (m : Int) + (k : Int) + 4 + (sz : Int) := IntWalk.i64_in _ ⟨by omega, by omega⟩
          obtain ⟨Ap, np, cp, hnp, hlep, hrunp, hrdp⟩ := cutM (P := Tryd.prog) 22 5 .i64 .i64 Tryd.underlying22 info_size A n c (m + k + 4) (m + k + 4 + sz) (by omega) (by omega) hc
          obtain ⟨Ak, nk, ck, hnk, hlek, hrunk, hrdk⟩ := cutM (P := Tryd.prog) 22 5 .i64 .i64 Tryd.underlying22 info_size A n c m (m + k) (by omega) (by omega) hc
          obtain ⟨Al, nl, cl, hnl, hlel, hrunl, hrdl⟩ := cutM (P := Tryd.prog) 22 5 .i64 .i64 Tryd.underlying22 info_size A n c (m + k) (m + k + 4) (by omega) (by omega) hc
          have e1 : ((m + k + 4 + sz : Nat) : Int) = (m : Int) + (k : Int) + 4 + (sz : Int) := by omega
          have e2 : ((m + k + 4 : Nat) : Int) = (m : Int) + (k : Int) + 4 := by omega
          have e3 : ((m + k : Nat) : Int) = (m : Int) + (k : Int) := by omega
          simp only [e1, e2, e3] at hrunp hrunk hrunl
          clear e1 e2 e3
          have hrlt := hr.lt (by decide)
          have HRp : Held (RdN w _ .u8 Ap np ((b.drop (m + k + 4)).take sz)) := ⟨by rw [← mid_eq]; exact RdV.nums_mid (hrdp w _ _ hrlt)⟩
          have HRk : Held (RdN w _ .u8 Ak nk ((b.drop m).take k)) := ⟨by rw [← mid_eq]; exact RdV.nums_mid (hrdk w _ _ hrlt)⟩
          have HRl : Held (RdN w _ .u8 Al nl ((b.drop (m + k)).take 4)) := ⟨by rw [← mid_eq]; exact RdV.nums_mid (hrdl w _ _ hrlt)⟩
          have HNp : Held (np ≤ 1000000) := ⟨by have := hnp.out; omega⟩
          have HNk : Held (nk ≤ 1000000) := ⟨by have := hnk.out; omega⟩
          have HNl : Held (nl ≤ 8) := ⟨by have := hnl.out; omega⟩
          have HBl := Held.mk ((hb.drop (m + k)).take 4)
          have HBx := Held.mk (((hb.drop m).take k).append ((hb.drop (m + k + 4)).take sz))
          have hpl : ((b.drop (m + k + 4)).take sz).length = sz := by rw [List.length_take, List.length_drop]; omega
          have hkl : ((b.drop m).take k).length = k := by rw [List.length_take, List.length_drop]; omega
          have hll : ((b.drop (m + k)).take 4).length = 4 := by rw [List.length_take, List.length_drop]; omega
          have HLc := Held.mk (crc_lt _ HBx.out)
          have HLl : Held (low ((b.drop (m + k)).take 4) < 4294967296) := ⟨by have := low_lt _ HBl.out; rw [hll] at this; exact this⟩
          have HLL := Held.mk hll
          have HPl := Held.mk hpl
          have HKl := Held.mk hkl
          have HC7 : Held ((((b.drop m).take k).length + ((b.drop (m + k + 4)).take sz).length + (((b.drop m).take k).length + ((b.drop (m + k + 4)).take sz).length) / 4 + 192) * 1 ≤ 281474976710656) := ⟨by rw [hpl, hkl]; omega⟩
          have HC8 : Held ((((b.drop m).take k) ++ ((b.drop (m + k + 4)).take sz)).length ≤ 140737488355328) := ⟨by rw [List.length_append, hpl, hkl]; omega⟩
          clear hr hb he hr1 hrd1 he2 hrdp hrdk hrdl hrlt hpl hkl hll hlen hsh hs
          generalize (b.drop (m + k + 4)).take sz = pl at *
          generalize (b.drop m).take k = ks at *
          generalize (b.drop (m + k)).take 4 = ls at *
          by_cases hq : crc (ks ++ pl) = low ls
          · rw [if_pos hq]
            refine (runframe_ok ok A Ap Ak Al A1 n c sz m x k np cp nk ck nl cl n1 c1 pl ks ls w H1 H2 hrun1 hrunp hrunk hrunl hszI hsI hlep hlek hw1 hw2 hw4 hw5 hshI hshJ HRp HRk HRl HNp HNk HNl HBx HC7 HC8 HLc ⟨decide_eq_true (by rw [hq, ← HLL.out]; exact hi_low _ HBl.out)⟩).mono ?_
            rintro e w' ⟨v, rfl, h2, h3⟩
            exact ⟨v, by simp [Er.code], h2, h3⟩
          · rw [if_neg hq]
            exact runframe_sum ok A Ap Ak Al A1 n c sz m x k np cp nk ck nl cl n1 c1 pl ks ls w H1 H2 hrun1 hrunp hrunk hrunl hszI hsI hlep hlek hw1 hw2 hw4 hw5 hshI hshJ HRp HRk HRl HNp HNk HNl HBx HC7 HC8 HLc ⟨decide_eq_false (fun h => hq (by rw [← h, low_hi]; exact (Nat.mod_eq_of_lt HLc.out).symm))⟩
end Wire
end Go.Proofs.YtihgmlcmdpmhhaaDoor
/- Unframe: what it answers. -/
namespace Go.Proofs.YtihgmlcmdpmhhaaDoor
set_option linter.unusedVariables false
set_option linter.unusedSimpArgs false
namespace Wire
open Go.RowKit Mem Apn
set_option maxHeartbeats 600000 in
set_option maxRecDepth 100000 in
theorem unframe_any (ok : Nat → Prop) (A : Option Addr) (n c : Nat) (b : List Int) (w : World) (hr : RdN w ok .u8 A n b) (hc : n ≤ c) (hl : n ≤ 281474976710656) (hb : Byt b) :
    Calls Tryd.prog 18 #[.slice A n c] w fun e w' => ∃ v, e = .returned (.tuple #[.int .u64 (unf b).1, v, .int .i64 (unf b).2.2.1, (unf b).2.2.2.enc]) ∧ OwnN w' w.heap.size 5 .u8 v (unf b).2.1 ∧ Below w.heap.size w w' := by
  have hlen := hr.len
  obtain ⟨sz, m, e1, he⟩ : ∃ sz m e, num b = (sz, m, e) := ⟨_, _, _, rfl⟩
  have H1 := Held.mk (number_wide ok A n c b w hr hc hl hb)
  have hm := num_le b
  have hsz := num_U64 b hb
  rw [he] at H1 hm hsz
  simp only at hm hsz
  have bad1 : ∀ (T : TypeId) (v : Value), e1.enc = .iface T v → e1 ≠ .ok → Calls Tryd.prog 18 #[.slice A n c] w fun e w' => ∃ v, e = .returned (.tuple #[.int .u64 (unf b).1, v, .int .i64 (unf b).2.2.1, (unf b).2.2.2.enc]) ∧ OwnN w' w.heap.size 5 .u8 v (unf b).2.1 ∧ Below w.heap.size w w' := by
    intro T v hT hne
    rw [unf_bad1 he hne]
    unfold numV at H1
    simp only [hT] at H1 ⊢
    clear hlen hr hb he hm hsz hne hT
    go_enter Tryd.func18, Tryd.ntmps18
    go_wp2_with fail
    refine H1.out.mono ?_
    rintro e w1 ⟨rfl, rfl⟩
    go_wp2
    (try simp only [Exit.inBlock, Exit.then])
    refine bodyPost_ret (results_tmp4 rfl _ _ _) rfl ?_
    exact ⟨_, rfl, own_nil _ _ _ _, Below.refl _ _⟩
  cases e1 with
  | no k => exact bad1 _ _ rfl (by simp)
  | ref s k => exact bad1 _ _ rfl (by simp)
  | ok =>
    clear bad1
    have hszI : (0 : Int) ≤ sz := by omega
    unfold numV Er.enc at H1
    simp only at H1
    by_cases hs : 65536 < sz
    · rw [unf_many he hs]
      have hsI : (65536 : Int) < (sz : Int) := by omega
      clear hlen hr hb he hm hsz hs
      go_enter Tryd.func18, Tryd.ntmps18
      go_wp2_with fail
      refine H1.out.mono ?_
      rintro e w1 ⟨rfl, rfl⟩
      go_wp2
      (try simp only [Exit.inBlock, Exit.then])
      refine bodyPost_ret (results_tmp4 rfl _ _ _) rfl ?_
      exact ⟨_, rfl, own_nil _ _ _ _, Below.refl _ _⟩
    · have hsI : (sz : Int) ≤ 65536 := by omega
      obtain ⟨A1, n1, c1, hn1, hle1, hrun1, hrd1⟩ := cutF (P := Tryd.prog) 22 5 .i64 Tryd.underlying22 info_size A n c m (by omega) hc
      have hr1 : RdN w ok .u8 A1 n1 (b.drop m) := RdV.nums_drop (hrd1 w ok _ hr)
      obtain ⟨x, k, e2, he2⟩ : ∃ x k e, num (b.drop m) = (x, k, e) := ⟨_, _, _, rfl⟩
      have H2 := Held.mk (number_wide ok A1 n1 c1 (b.drop m) w hr1 hle1 (by have := hn1.out; omega) (hb.drop m))
      have hk := num_le (b.drop m)
      have hxU := num_U64 (b.drop m) (hb.drop m)
      rw [he2] at H2 hk hxU
      simp only [List.length_drop] at hk hxU
      have bad2 : ∀ (T : TypeId) (v : Value), e2.enc = .iface T v → e2 ≠ .ok → Calls Tryd.prog 18 #[.slice A n c] w fun e w' => ∃ v, e = .returned (.tuple #[.int .u64 (unf b).1, v, .int .i64 (unf b).2.2.1, (unf b).2.2.2.enc]) ∧ OwnN w' w.heap.size 5 .u8 v (unf b).2.1 ∧ Below w.heap.size w w' := by
        intro T v hT hne
        rw [unf_bad2 he hs he2 hne]
        unfold numV at H2
        simp only [hT] at H2 ⊢
        clear hlen hr hb he hm hsz hne hT hk hxU hr1 hrd1 hs he2
        go_enter Tryd.func18, Tryd.ntmps18
        go_wp2_with fail
        refine H1.out.mono ?_
        rintro e w1 ⟨rfl, rfl⟩
        go_wp2_with fail
        refine H2.out.mono ?_
        rintro e w1 ⟨rfl, rfl⟩
        go_wp2
        (try simp only [Exit.inBlock, Exit.then])
        refine bodyPost_ret (results_tmp4 rfl _ _ _) rfl ?_
        exact ⟨_, rfl, own_nil _ _ _ _, Below.refl _ _⟩
      cases e2 with
      | no k => exact bad2 _ _ rfl (by simp)
      | ref s k => exact bad2 _ _ rfl (by simp)
      | ok =>
        clear bad2
        unfold numV Er.enc at H2
        simp only at H2
        rw [unf_good he hs he2]
        have hw1 : IntKind.i64.wrap ((m : Int) + (k : Int)) = (m : Int) + (k : Int) := IntWalk.i64_in _ ⟨by omega, by omega⟩
        have hw2 : IntKind.i64.wrap ((m : Int) + (k : Int) + 4) = (m : Int) + (k : Int) + 4 := IntWalk.i64_in _ ⟨by omega, by omega⟩
        have hw3 : IntKind.i64.wrap ((n : Int) - ((m : Int) + (k : Int) + 4)) = (n : Int) - ((m : Int) + (k : Int) + 4) := IntWalk.i64_in _ ⟨by omega, by omega⟩
        have hw4 : IntKind.i64.wrap (sz : Int) = (sz : Int) := IntWalk.i64_in _ ⟨by omega, by omega⟩
        by_cases hsh : b.length < m + k + 4 + sz
        · rw [if_pos hsh]
          have hshI : (n : Int) - ((m : Int) + (k : Int) + 4) < (sz : Int) := by omega
          clear hlen hr hb he hm hsz hk hxU hr1 hrd1 hs he2 hsh
          go_enter Tryd.func18, Tryd.ntmps18
          go_wp2_with fail
          refine H1.out.mono ?_
          rintro e w1 ⟨rfl, rfl⟩
          go_wp2_with fail
          refine H2.out.mono ?_
          rintro e w1 ⟨rfl, rfl⟩
          go_wp2
          (try simp only [Exit.inBlock, Exit.then])
          refine bodyPost_ret (results_tmp4 rfl _ _ _) rfl ?_
          exact ⟨_, rfl, own_nil _ _ _ _, Below.refl _ _⟩
        · rw [if_neg hsh]
          have hk9 : k ≤ 9 := by
            obtain ⟨f1, _, f2, _⟩ := form_num (b.drop m) (hb.drop m) x k he2
            have := form_length x f1
            omega
          have hshI : ¬ (n : Int) - ((m : Int) + (k : Int) + 4) < (sz : Int) := by omega
          have hw5 : IntKind.i64.wrap ((m : Int) + (k : Int) + 4 + (sz : Int)) = (m : Int) + (k : Int) + 4 + (sz : Int) := IntWalk.i64_in _ ⟨by omega, by omega⟩
          obtain ⟨Ap, np, cp, hnp, hlep, hrunp, hrdp⟩ := cutM (P := Tryd.prog) 22 5 .i64 .i64 Tryd.underlying22 info_size A n c (m + k + 4) (m + k + 4 + sz) (by omega) (by omega) hc
          obtain ⟨Ak, nk, ck, hnk, hlek, hrunk, hrdk⟩ := cutM (P := Tryd.prog) 22 5 .i64 .i64 Tryd.underlying22 info_size A n c m (m + k) (by omega) (by omega) hc
          obtain ⟨Al, nl, cl, hnl, hlel, hrunl, hrdl⟩ := cutM (P := Tryd.prog) 22 5 .i64 .i64 Tryd.underlying22 info_size A n c (m + k) (m + k + 4) (by omega) (by omega) hc
          have e1 : ((m + k + 4 + sz : Nat) : Int) = (m : Int) + (k : Int) + 4 + (sz : Int) := by omega
          have e2 : ((m + k + 4 : Nat) : Int) = (m : Int) + (k : Int) + 4 := by omega
          have e3 : ((m + k : Nat) : Int) = (m : Int) + (k : Int) := by omega
          simp only [e1, e2, e3] at hrunp hrunk hrunl
          clear e1 e2 e3
          have hrlt := hr.lt (by decide)
          have HRp : Held (RdN w _ .u8 Ap np ((b.drop (m + k + 4)).take sz)) := ⟨by rw [← mid_eq]; exact RdV.nums_mid (hrdp w _ _ hrlt)⟩
          have HRk : Held (RdN w _ .u8 Ak nk ((b.drop m).take k)) := ⟨by rw [← mid_eq]; exact RdV.nums_mid (hrdk w _ _ hrlt)⟩
          have HRl : Held (RdN w _ .u8 Al nl ((b.drop (m + k)).take 4)) := ⟨by rw [← mid_eq]; exact RdV.nums_mid (hrdl w _ _ hrlt)⟩
          have HNp : Held (np ≤ 225179981368328) := ⟨by have := hnp.out; omega⟩
          have HNk : Held (nk ≤ 225179981368328) := ⟨by have := hnk.out; omega⟩
          have HNl : Held (nl ≤ 8) := ⟨by have := hnl.out; omega⟩
          have HBl := Held.mk ((hb.drop (m + k)).take 4)
          have HBx := Held.mk (((hb.drop m).take k).append ((hb.drop (m + k + 4)).take sz))
          have hpl : ((b.drop (m + k + 4)).take sz).length = sz := by rw [List.length_take, List.length_drop]; omega
          have hkl : ((b.drop m).take k).length = k := by rw [List.length_take, List.length_drop]; omega
          have hll : ((b.drop (m + k)).take 4).length = 4 := by rw [List.length_take, List.length_drop]; omega
          have HLc := Held.mk (crc_lt _ HBx.out)
          have HLl : Held (low ((b.drop (m + k)).take 4) < 4294967296) := ⟨by have := low_lt _ HBl.out; rw [hll] at this; exact this⟩
          have HPl := Held.mk hpl
          have HKl := Held.mk hkl
          have HC7 : Held ((((b.drop m).take k).length + ((b.drop (m + k + 4)).take sz).length + (((b.drop m).take k).length + ((b.drop (m + k + 4)).take sz).length) / 4 + 192) * 1 ≤ 281474976710656) := ⟨by rw [hpl, hkl]; omega⟩
          have HC8 : Held ((((b.drop m).take k) ++ ((b.drop (m + k + 4)).take sz)).length ≤ 140737488355328) := ⟨by rw [List.length_append, hpl, hkl]; omega⟩
          clear hr hb he hr1 hrd1 he2 hrdp hrdk hrdl hrlt hpl hkl hll hlen hsh hs
          generalize (b.drop (m + k + 4)).take sz = pl at *
          generalize (b.drop m).take k = ks at *
          generalize (b.drop (m + k)).take 4 = ls at *
          by_cases hq : crc (ks ++ pl) = low ls
          · rw [if_pos hq]
            refine (unframe_ok ok A Ap Ak Al A1 n c sz m x k np cp nk ck nl cl n1 c1 pl ks ls w H1 H2 hrun1 hrunp hrunk hrunl hszI hsI hlep hlek hw1 hw2 hw3 hw4 hw5 hshI HRp HRk HRl HNp HNk HNl HBl HBx HC7 HC8 hq HLc HLl).mono ?_
            rintro e w' ⟨v, rfl, h2, h3⟩
            exact ⟨v, by simp [Er.enc], h2, h3⟩
          · rw [if_neg hq]
            exact unframe_sum ok A Ap Ak Al A1 n c sz m x k np cp nk ck nl cl n1 c1 pl ks ls w H1 H2 hrun1 hrunp hrunk hrunl hszI hsI hlep hlek hw1 hw2 hw3 hw4 hw5 hshI HRp HRk HRl HNp HNk HNl HBl HBx HC7 HC8 hq HLc HLl
end Wire
end Go.Proofs.YtihgmlcmdpmhhaaDoor
