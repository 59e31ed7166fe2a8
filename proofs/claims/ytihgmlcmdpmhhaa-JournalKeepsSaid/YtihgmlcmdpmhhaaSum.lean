import Derived.Test.YtihgmlcmdpmhhaaMem
import Derived.Test.YtihgmlcmdpmhhaaForm
import Derived.Test.YtihgmlcmdpmhhaaCrc
import Derived.Test.YtihgmlcmdpmhhaaProg
import Derived.Laws.BitsAllLaws
import Derived.Laws.Rows
import Derived.Outline
namespace Go.Proofs.Ytihgmlcmdpmhhaa
set_option linter.unusedVariables false
namespace Wire
open Go.RowKit Mem

def nats (l : List Int) : List Nat := l.map Int.toNat
/-- The sum of bytes. -/
def crc (l : List Int) : Nat := sumT (nats l) ^^^ 4294967295
def halfC : Array Value := #[.int .u32 0, .int .u32 274646895, .int .u32 549293790, .int .u32 820201905, .int .u32 1098587580, .int .u32 1361435347, .int .u32 1640403810, .int .u32 1905808397, .int .u32 2197175160, .int .u32 2460548119, .int .u32 2722870694, .int .u32 2987750089, .int .u32 3280807620, .int .u32 3553878443, .int .u32 3811616794, .int .u32 4084100981]
theorem halfC_get (i : Nat) (hi : i < 16) : halfC[i]? = some (.int .u32 (half.getD i 0 : Nat)) := by
  have : ∀ j, j < 16 → j = i → halfC[i]? = some (.int .u32 (half.getD i 0 : Nat)) := by
    intro j hj e
    match j, hj with
    | 0, _ => subst e; rfl
    | 1, _ => subst e; rfl
    | 2, _ => subst e; rfl
    | 3, _ => subst e; rfl
    | 4, _ => subst e; rfl
    | 5, _ => subst e; rfl
    | 6, _ => subst e; rfl
    | 7, _ => subst e; rfl
    | 8, _ => subst e; rfl
    | 9, _ => subst e; rfl
    | 10, _ => subst e; rfl
    | 11, _ => subst e; rfl
    | 12, _ => subst e; rfl
    | 13, _ => subst e; rfl
    | 14, _ => subst e; rfl
    | 15, _ => subst e; rfl
    | j + 16, hj => omega
  exact this i hi rfl
theorem and15 (s : Nat) (h : s < 4294967296) : bits .and .u32 (s : Int) 15 = ((s % 16 : Nat) : Int) := by
  have := u32_and_nat s 15 h (by omega)
  rw [show ((15 : Nat) : Int) = 15 from rfl] at this
  rw [this]
  congr 1
  exact Nat.and_two_pow_sub_one_eq_mod s 4
theorem g4_bits (s : Nat) (h : s < 4294967296) : bits .xor .u32 ((s : Int) / 16) ((half.getD (s % 16) 0 : Nat) : Int) = ((g4 s : Nat) : Int) := by
  have := u32_xor_nat (s / 16) (half.getD (s % 16) 0) (by omega) (half_lt _)
  rw [show (((s / 16 : Nat)) : Int) = (s : Int) / 16 from by omega] at this
  exact this
theorem nats_snoc (l : List Int) (b : Nat) : nats (l ++ [(b : Int)]) = nats l ++ [b] := by simp [nats]
theorem sumT_snoc (l : List Nat) (b : Nat) : sumT (l ++ [b]) = sumB (sumT l) b := by simp [sumT]
theorem sumT_byt (l : List Int) (h : Byt l) : sumT (nats l) < 4294967296 := sumT_lt _ (fun c hc => by
  obtain ⟨x, hx, rfl⟩ := List.mem_map.1 hc
  have := h x hx
  omega)

set_option maxHeartbeats 2000000 in
set_option maxRecDepth 100000 in
theorem sum_any (ok : Nat → Prop) (A : Option Addr) (n c : Nat) (xs : List Int) (w : World) (hr : RdN w ok .u8 A n xs) (hl : n ≤ 140737488355328) (hb : Byt xs) :
    Calls Try.prog 25 #[.slice A n c] w fun e w' => e = .returned (.int .u32 (crc xs)) ∧ Below w.heap.size w w' := by
  have h1 := Held.mk hr.len
  have Hr := Held.mk (hr.lt (by decide))
  have Hb := Held.mk hb
  clear hr hb
  go_enter Try.func25, Try.ntmps25
  go_wp2
  have hT : ∀ i, i < 16 → (w.alloc (.cells halfC 82)).cell? ⟨w.heap.size, i, none⟩ = some (.int .u32 (half.getD i 0 : Nat)) := fun i hi => by
    rw [cell_of_row _ _ i halfC 82 (0, 0) (heap_alloc_new w _)]
    exact halfC_get i hi
  have hB : Below w.heap.size w (w.alloc (.cells halfC 82)) := (Below.refl _ _).alloc (Nat.le_refl _) _
  unfold halfC at hT hB
  generalize w.alloc (.cells #[.int .u32 0, .int .u32 274646895, .int .u32 549293790, .int .u32 820201905, .int .u32 1098587580, .int .u32 1361435347, .int .u32 1640403810, .int .u32 1905808397, .int .u32 2197175160, .int .u32 2460548119, .int .u32 2722870694, .int .u32 2987750089, .int .u32 3280807620, .int .u32 3553878443, .int .u32 3811616794, .int .u32 4084100981] 82) = W at *
  have HT := Held.mk hT
  have HB := Held.mk hB
  have Hr' := Held.mk (Hr.out.keep (Keep.of_below hB (fun k => ¬ k < w.heap.size)) (fun k hk => by simp; exact hk.2))
  clear hT hB Hr
  generalize hg : w.heap.size = g at *
  have Hg := Held.mk hg
  clear hg
  go_loop [4, 10] (fun s i => ∃ k : Nat, i = .int .i64 k ∧ k ≤ n ∧ s = .int .u32 (sumT (nats (xs.take k)) : Nat)) (fun _ i => n - (intOf i).toNat)
  case atStart => exact ⟨0, rfl, Nat.zero_le _, rfl⟩
  case round =>
    obtain ⟨k, rfl, hk, rfl⟩ := hrel
    have hsl := sumT_byt _ (Hb.out.take k)
    by_cases hlt : k < n
    · obtain ⟨ad, rfl, hc⟩ := RdN.at_ Hr'.out hlt
      have hcb := Hb.out.getD k
      generalize hy : xs.getD k 0 = y at *
      obtain ⟨b, rfl⟩ := Int.eq_ofNat_of_zero_le hcb.1
      have hs : xs.take (k + 1) = xs.take k ++ [(b : Int)] := by
        rw [List.take_succ_eq_append_getElem (by rw [h1.out]; exact hlt), ← hy, List.getD_eq_getElem?_getD, List.getElem?_eq_getElem (by rw [h1.out]; exact hlt)]; rfl
      have Hn : Held (sumT (nats (xs.take (k + 1))) = sumB (sumT (nats (xs.take k))) b) := ⟨by rw [hs, nats_snoc, sumT_snoc]⟩
      clear hs hy
      generalize sumT (nats (xs.take k)) = s at *
      have hx1 := u32_xor_nat s b hsl (by omega)
      have hl1 : s ^^^ b < 4294967296 := xor_lt _ _ hsl (by omega)
      unfold sumB at Hn
      generalize s ^^^ b = s1 at *
      have ha1 := and15 s1 hl1
      have hx2 := g4_bits s1 hl1
      have hc1 := HT.out (s1 % 16) (by omega)
      have hl2 := g4_lt s1 hl1
      generalize g4 s1 = s2 at *
      have ha2 := and15 s2 hl2
      have hx3 := g4_bits s2 hl2
      have hc2 := HT.out (s2 % 16) (by omega)
      have hl3 := g4_lt s2 hl2
      generalize g4 s2 = s3 at *
      have hi1 : s1 % 16 < 16 := by omega
      have hi2 : s2 % 16 < 16 := by omega
      generalize s1 % 16 = i1 at *
      generalize s2 % 16 = i2 at *
      generalize half.getD i1 0 = v1 at *
      generalize half.getD i2 0 = v2 at *
      go_wp2
      go_round
      case rel => exact ⟨k + 1, by go_num, by omega, by rw [Hn.out]⟩
      case measure => simp [intOf]; omega
    · have ek : xs.take k = xs := List.take_of_length_le (by rw [h1.out]; omega)
      rw [ek] at hsl ⊢
      clear ek
      have hfin : Held (bits .xor .u32 IntKind.u32.max ((sumT (nats xs) : Nat) : Int) = (crc xs : Nat)) := ⟨by
        have := u32_xor_nat 4294967295 (sumT (nats xs)) (by omega) hsl
        rw [Nat.xor_comm] at this
        exact this⟩
      go_wp2
      go_ret
      rw [← hfin.out]
      exact ⟨rfl, by rw [Hg.out]; exact HB.out⟩
end Wire
end Go.Proofs.Ytihgmlcmdpmhhaa
