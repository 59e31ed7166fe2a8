/- Pick; fits: walked. -/
import Derived.Test.YtgmanmbicoofgaaDoorWk2
import Derived.Deep.RegionHeld3
namespace Go.Proofs.YtgmanmbicoofgaaDoor
set_option linter.unusedVariables false
set_option linter.unusedSimpArgs false
namespace Ord
open Go.RowKit Mem Grp
set_option maxHeartbeats 1000000 in
set_option maxRecDepth 100000 in
theorem pick_any (k n : Int) (w : World) (hk : -9223372036854775808 ≤ k ∧ k ≤ 9223372036854775807) (hn : 1 ≤ n) (hn2 : n ≤ 1000000000000) : Calls Tryd.prog 67 #[.int .i64 k, .int .i64 n] w fun e w' => e = .returned (.int .i64 (k % n)) ∧ w = w' := by
  go_enter Tryd.func67, Tryd.ntmps67
  by_cases h0 : 0 ≤ k
  · have e : k.tmod n = k % n := Int.tmod_eq_emod_of_nonneg h0
    have h1 := Int.emod_nonneg k (show n ≠ 0 by omega)
    have h2 := Int.emod_lt_of_pos k (show 0 < n by omega)
    generalize k % n = r at *
    go_wp2
    go_ret
    exact ⟨rfl, rfl⟩
  · by_cases hd : n ∣ k
    · have e : k.tmod n = 0 := by rw [Int.tmod_eq_emod, if_pos (.inr hd), Int.emod_eq_zero_of_dvd hd]; rfl
      have e2 : k % n = 0 := Int.emod_eq_zero_of_dvd hd
      have Hd := Held.mk hd
      clear hd
      rw [e2]
      clear e2
      go_wp2
      go_ret
      exact ⟨rfl, rfl⟩
    · have e : k.tmod n = k % n - n := by rw [Int.tmod_eq_emod, if_neg (fun h => h.elim h0 hd)]; omega
      have h1 := Int.emod_nonneg k (show n ≠ 0 by omega)
      have h2 := Int.emod_lt_of_pos k (show 0 < n by omega)
      have h3 : k % n ≠ 0 := fun h => hd (Int.dvd_of_emod_eq_zero h)
      clear hd
      generalize k % n = r at *
      have h4 : r - n < 0 := by omega
      go_wp2
      go_ret
      exact ⟨by first | rfl | (congr 2; omega), rfl⟩
theorem pick_nat (k : Int) (n : Nat) (w : World) (hk : -9223372036854775808 ≤ k ∧ k ≤ 9223372036854775807) (hn : 1 ≤ n) (hn2 : n ≤ 1000000000000) : Calls Tryd.prog 67 #[.int .i64 k, .int .i64 n] w fun e w' => e = .returned (.int .i64 ((k % n).toNat : Nat)) ∧ w' = w := by
  refine (pick_any k n w hk (by omega) (by omega)).mono ?_
  rintro e w' ⟨rfl, rfl⟩
  refine ⟨?_, rfl⟩
  have := Int.emod_nonneg k (show (n : Int) ≠ 0 by omega)
  rw [Int.toNat_of_nonneg this]
/-- A pair as it is handed in. -/
structure Two where
  a : Int
  b : Int
def Two.cells (p : Two) : List Value := [.int .i64 p.a, .int .i64 p.b]
structure Two.Good (p : Two) : Prop where
  a : -9223372036854775808 ≤ p.a ∧ p.a ≤ 9223372036854775807
  b : -9223372036854775808 ≤ p.b ∧ p.b ≤ 9223372036854775807
theorem Two.cells_len (p : Two) : p.cells.length = 2 := rfl
def RdT (w : World) (ok : Nat → Prop) (A : Option Addr) (ps : List Two) : Prop := RdV w ok 2 A ps.length (ps.flatMap Two.cells)
theorem RdT.at_ {w : World} {ok : Nat → Prop} {A : Option Addr} {ps : List Two} (h : RdT w ok A ps) {k : Nat} (hk : k < ps.length) : ∃ ad, A = some ad ∧ ok ad.block ∧
    w.cell? (ad.add (k * 2)) = some (.int .i64 ps[k].a) ∧ w.cell? ⟨(ad.add (k * 2)).block, (ad.add (k * 2)).off + 1, none⟩ = some (.int .i64 ps[k].b) := by
  obtain ⟨ad, e, hb, hc⟩ := h.2 (by omega)
  refine ⟨ad, e, hb, ?_, ?_⟩
  · exact hc _ _ (by rw [← Nat.add_zero (k * 2), flat_get Two.cells 2 Two.cells_len ps k 0 hk (by omega)]; rfl)
  · have := hc (k * 2 + 1) _ (by rw [flat_get Two.cells 2 Two.cells_len ps k 1 hk (by omega)]; rfl)
    rw [← add_of_add] at this
    exact this
/-- A pair that names things. -/
def fit (n : Nat) (p : Two) : Nat × Nat := ((p.a % n).toNat, (p.b % n).toNat)
theorem fit_lt {n : Nat} (hn : 1 ≤ n) (p : Two) : (fit n p).1 < n ∧ (fit n p).2 < n := by
  have h1 := Int.emod_nonneg p.a (show (n : Int) ≠ 0 by omega)
  have h2 := Int.emod_lt_of_pos p.a (show (0 : Int) < n by omega)
  have h3 := Int.emod_nonneg p.b (show (n : Int) ≠ 0 by omega)
  have h4 := Int.emod_lt_of_pos p.b (show (0 : Int) < n by omega)
  unfold fit
  constructor
  · show (p.a % n).toNat < n
    omega
  · show (p.b % n).toNat < n
    omega
theorem info_two : (Tryd.prog.info? 73).map (fun i => (i.zero, i.size, i.bytes)) = some (some (.agg #[.int .i64 0, .int .i64 0]), 2, 16) := by kernel_rfl
theorem under_twos : Tryd.prog.underlying 22 = some (.slice 73) := by kernel_rfl
set_option maxHeartbeats 4000000 in
set_option maxRecDepth 100000 in
theorem fits_any (k0 : Int) (A : Option Addr) (m c : Nat) (l : List Two) (w : World) (hk : -9223372036854775808 ≤ k0 ∧ k0 ≤ 9223372036854775807) (hm : m = l.length) (hb : m ≤ 8796093022208) (h : RdT w (fun k => k < w.heap.size) A l) (hg : ∀ p ∈ l, p.Good) :
    Calls Tryd.prog 34 #[.int .i64 k0, .slice A m c] w fun e w' => ∃ (n : Nat) (ps : List (Nat × Nat)) (v : Value), e = .returned (.tuple #[.int .i64 n, v]) ∧ n ≤ 200 ∧ ps.length ≤ m ∧ (∀ p ∈ ps, p.1 < n ∧ p.2 < n) ∧ w'.ownsRow w.heap.size 73 2 v ps.length (ps.flatMap two) ∧ Below w.heap.size w w' := by
  have HA := Held.mk h
  have HG := Held.mk hg
  have HM := Held.mk hm
  clear h hg hm
  have hmI : (m : Int) ≤ 8796093022208 := by omega
  go_enter Tryd.func34, Tryd.ntmps34
  go_wp2_with fail
  refine (pick_nat k0 201 w hk (by omega) (by omega)).mono ?_
  rintro e w1 ⟨rfl, rfl⟩
  have hn : (k0 % (201 : Nat)).toNat ≤ 200 := by
    have := Int.emod_lt_of_pos k0 (show (0 : Int) < (201 : Nat) by omega)
    omega
  generalize (k0 % (201 : Nat)).toNat = n at *
  go_wp2_with fail
  go_loopw [6, 7] (fun v i wr => ∃ (j : Nat) (ps : List (Nat × Nat)), i = .int .i64 j ∧ j ≤ m ∧ Held (ps.length ≤ j ∧ ∀ p ∈ ps, p.1 < n ∧ p.2 < n) ∧ Held (wr.ownsRow w1.heap.size 73 2 v ps.length (ps.flatMap two)) ∧ Held (Below w1.heap.size w1 wr)) (fun _ i _ => m - (intOf i).toNat)
  case atStart => exact ⟨0, [], rfl, Nat.zero_le _, ⟨Nat.le_refl _, by simp⟩, ⟨own_nil _ _ _ _⟩, ⟨Below.refl _ _⟩⟩
  case round =>
    obtain ⟨j, ps, rfl, hj, HPs, HOk, HBk⟩ := hrel
    obtain ⟨Ao, co, rfl, hco⟩ := own_slice_ HOk.out
    by_cases hlt : j < m
    · by_cases hn0 : n = 0
      · subst hn0
        have HPn : Held (ps.length ≤ j + 1 ∧ ∀ p ∈ ps, p.1 < 0 ∧ p.2 < 0) := ⟨by have := HPs.out.1; omega, HPs.out.2⟩
        go_wp2_with fail
        go_roundw
        case rel => exact ⟨j + 1, ps, by go_num, by omega, HPn, HOk, HBk⟩
        case measure => simp [intOf]; omega
      · have hlt0 : (0 : Int) < (n : Int) := by omega
        have hjl : j < l.length := by have := HM.out; omega
        obtain ⟨ad, rfl, hab, c0, c1⟩ := (show RdT wr (fun k => k < w1.heap.size) A l from RdV.keep HA.out (Keep.of_below HBk.out (fun _ => False)) (fun _ _ h => h)).at_ hjl
        have hgd := HG.out l[j] (List.getElem_mem hjl)
        have hfl := fit_lt (show 1 ≤ n by omega) l[j]
        have HPk : Held (∀ (W : World) (v : Value) (N : Nat), ((v = .int .i64 l[j].a ∧ N = (fit n l[j]).1) ∨ (v = .int .i64 l[j].b ∧ N = (fit n l[j]).2)) → Calls Tryd.prog 67 #[v, .int .i64 n] W fun e w' => e = .returned (.int .i64 (N : Nat)) ∧ w' = W) := ⟨fun W v N hv => by
          rcases hv with ⟨rfl, rfl⟩ | ⟨rfl, rfl⟩
          · exact pick_nat _ n W hgd.a (by omega) (by omega)
          · exact pick_nat _ n W hgd.b (by omega) (by omega)⟩
        clear hgd
        generalize (fit n l[j]).1 = a at *
        generalize (fit n l[j]).2 = b at *
        generalize l[j].a = xa at *
        generalize l[j].b = xb at *
        have HPn : Held ((ps ++ [(a, b)]).length ≤ j + 1 ∧ ∀ p ∈ ps ++ [(a, b)], p.1 < n ∧ p.2 < n) := ⟨by
          have h1 := HPs.out.1
          refine ⟨by simp; omega, fun p hp => ?_⟩
          rcases List.mem_append.1 hp with h2 | h2
          · exact HPs.out.2 p h2
          · obtain rfl : p = (a, b) := by simpa using h2
            exact hfl⟩
        have hlt2 : (ad.add (j * 2)).block < wr.heap.size := by rw [block_of_add]; have := HBk.out.size; omega
        have HNe : Held (¬ (Value.slice Ao ps.length co).ownBlock = some (ad.add (j * 2)).block) := ⟨fun h => by
          rw [block_of_add] at h
          have := own_ge HOk.out _ h
          omega⟩
        have HD1 : Held (∀ o, (wr.alloc o).cell? (ad.add (j * 2)) = some (.int .i64 xa)) := ⟨fun o => ((Keep.refl (fun _ => False) wr).alloc o).cell c0 (fun h => h)⟩
        have HD2 : Held (∀ o, (wr.alloc o).cell? ⟨(ad.add (j * 2)).block, (ad.add (j * 2)).off + 1, none⟩ = some (.int .i64 xb)) := ⟨fun o => ((Keep.refl (fun _ => False) wr).alloc o).cell c1 (fun h => h)⟩
        have HC3 : Held ((ps.length + 1 + (ps.length + 1) / 4 + 192) * 16 ≤ 281474976710656) := ⟨by have := HPs.out.1; omega⟩
        have HC4 : Held (∀ o, w1.heap.size ≤ (wr.alloc o).heap.size) := ⟨fun o => by have := HBk.out.size; simp; omega⟩
        clear hfl HPs
        generalize hL : ps.length = L at *
        have HL := Held.mk hL
        clear hL
        go_wp2_with fail
        go_region_held3 (fun w' => w'.cell? (ad.add (j * 2)) = some (.int .i64 xa) ∧ w'.cell? ⟨(ad.add (j * 2)).block, (ad.add (j * 2)).off + 1, none⟩ = some (.int .i64 xb)) (first | exact ⟨c0, c1⟩ | exact ⟨HD1.out _, HD2.out _⟩ | exact ⟨e1, e2⟩ | go_keep)
          (first
            | (refine stepS w1.heap.size rfl (.tmp 18) (.tmp 34) 22 73 (.agg #[.int .i64 0, .int .i64 0]) 2 16 rfl under_twos info_two rfl (by decide) (by decide) (.slice Ao L co) L (ps.flatMap two) rfl (by exact HOk.out.alloc _) (fun _ => True) (some ⟨wr.heap.size, 0, none⟩) 1 1 [.int .i64 (a : Int), .int .i64 (b : Int)] rfl ⟨rfl, fun _ => ⟨_, rfl, trivial, World.news_of_block (cs := #[.int .i64 (a : Int), .int .i64 (b : Int)]) (t := 73) (fr := (0, 0)) (heap_alloc_new _ _)⟩⟩ (two_one_ _ _) HC3.out (by exact HC4.out _) ?_; intro v2 w3 ho3 hg3 hat3; have e1 := (Keep.of_grown hg3).cell (a := ad.add (j * 2)) (by exact HD1.out _) (by exact HNe.out); have e2 := (Keep.of_grown hg3).cell (a := ⟨(ad.add (j * 2)).block, (ad.add (j * 2)).off + 1, none⟩) (by exact HD2.out _) (by exact HNe.out))
            | (go_at_call 67; refine (HPk.out _ _ _ (by first | exact .inl ⟨rfl, rfl⟩ | exact .inr ⟨rfl, rfl⟩)).mono ?_; rintro e w8 ⟨rfl, rfl⟩))
        have hg3' : (wr.alloc (.cells #[.int .i64 (a : Int), .int .i64 (b : Int)] 73)).grownBy w3 (Value.slice Ao L co).ownBlock := ⟨hg3.os, hg3.tape, hg3.output, hg3.size, hg3.block⟩
        have HBn : Held (Below w1.heap.size w1 w3) := ⟨(((Keep.of_below HBk.out (fun _ => False)).alloc _).grown hg3' (fun i hi e => by have := own_ge HOk.out i e; omega)).to_below (fun _ _ h => h)⟩
        have HOn : Held (w3.ownsRow w1.heap.size 73 2 v2 (ps ++ [(a, b)]).length ((ps ++ [(a, b)]).flatMap two)) := ⟨by
          rw [List.length_append, HL.out, List.flatMap_append]
          exact ho3⟩
        clear hg3 hg3' hat3 ho3 e1 e2 c0 c1 HOk HBk
        go_wp2_with fail
        go_roundw
        case rel => exact ⟨j + 1, ps ++ [(a, b)], by go_num, by omega, HPn, HOn, HBn⟩
        case measure => simp [intOf]; omega
    · obtain rfl : j = m := by omega
      go_wp2_with fail
      go_ret2
      exact ⟨n, ps, _, rfl, hn, HPs.out.1, HPs.out.2, HOk.out, HBk.out⟩
end Ord
end Go.Proofs.YtgmanmbicoofgaaDoor
