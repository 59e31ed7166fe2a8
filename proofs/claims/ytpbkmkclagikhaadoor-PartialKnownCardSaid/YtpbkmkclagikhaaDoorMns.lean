/- The numbers of parts in one row; two rows alike: walked. -/
import Derived.Test.YtpbkmkclagikhaaDoorRtk
import Derived.Deep.RegionHeldLaw
namespace Go.Proofs.YtpbkmkclagikhaaDoor
set_option linter.unusedVariables false
set_option linter.unusedSimpArgs false
namespace Prt
open Go.RowKit Mem Dvs Err
section
variable {P : Program} {ops : Array Oper} {o : Oper} {a : Act} {w : World} {K : Act → World → Prop} {Q : Exit → Act → World → Prop} {E : Prop}
/-- append(v, x...), at a step of a region that draws its order. -/
theorem stepS (base : Nat) (hgd : o.guard = none) (s x : Operand) (t e : TypeId) (z : Value) (size bytes : Nat)
    (ho : o.op = .call { callee := .builtin .append, args := #[s, x], argTypes := #[t, t] })
    (ht : P.underlying t = some (.slice e)) (hinfo : (P.info? e).map (fun i => (i.zero, i.size, i.bytes)) = some (some z, size, bytes)) (hzs : z.cells.size = size) (hsz : 0 < size) (hb0 : 0 < bytes)
    (v : Value) (n : Nat) (xs : List Value) (hs : a.eval s = v) (hown : w.ownsRow base e size v n xs)
    (ok : Nat → Prop) (A : Option Addr) (m c : Nat) (news : List Value) (hx : a.eval x = .slice A m c) (hr : RdV w ok size A m news) (h1 : ∀ u ∈ news, u.oneCell' = true)
    (hbytes : ((n + m) + (n + m) / 4 + 192) * bytes ≤ 281474976710656) (hbase : base ≤ w.heap.size)
    (h : ∀ v' w', w'.ownsRow base e size v' (n + m) (xs ++ news) → w.grownBy w' v.ownBlock → (v'.ownBlock = v.ownBlock ∨ ∃ b, v'.ownBlock = some b ∧ w.heap.size ≤ b) → K (a.put o.dst v') w') :
    if Region.wanted o (yielded ops a.tmps) = true then Oper.wp P o a w K Q else E := by
  have hw : Region.wanted o (yielded ops a.tmps) = true := by simp [Region.wanted, hgd]
  rw [if_pos hw]
  obtain ⟨i0, hi, hzz⟩ := Option.map_eq_some_iff.1 hinfo
  simp only [Prod.mk.injEq] at hzz
  obtain ⟨hz0, hz1, hz2⟩ := hzz
  have hlen : (n + m) + (n + m) / 4 + 192 ≤ 281474976710656 := Nat.le_trans (Nat.le_mul_of_pos_right _ hb0) hbytes
  obtain ⟨v', w', hrun, h2, h3, h4⟩ := run_append_any (P := P) w base t o.type e i0 z size bytes ht hi hz0 hz1 hz2 hzs hsz v n xs hown ok A m c news hr h1 (by simp only [maxLen]; omega) hbytes hbase
  unfold Oper.wp execOp
  simp only [ho, resolve, invoke, builtin, Sem.run_bind, Sem.run_pure, Result.andThen_ok, List.map_toArray, List.map_cons, List.map_nil, hs, hx, hrun]
  exact h v' w' h2 h3 h4
end
theorem own_slice1 {w : World} {base e size n : Nat} {v : Value} {xs : List Value} (h : w.ownsRow base e size v n xs) : ∃ A c, v = .slice A n c ∧ n ≤ c := own_slice h
/-- Pairs of numbers, as numbers. -/
def flat : List (Nat × Nat) → List Int
  | [] => []
  | x :: l => (x.1 : Int) :: (x.2 : Int) :: flat l
theorem prs_flat (l : List (Nat × Nat)) : prs l = nums .i64 (flat l) := by
  induction l with
  | nil => rfl
  | cons x l ih => simp [prs, flat, nums, ih]
theorem flat_length (l : List (Nat × Nat)) : (flat l).length = l.length * 2 := by
  induction l with
  | nil => rfl
  | cons x l ih => simp [flat, ih]; omega
theorem info_i64 : (Tryd.prog.info? 2).map (fun i => (i.zero, i.size, i.bytes)) = some (some (.int .i64 0), 1, 8) := by kernel_rfl
set_option maxHeartbeats 4000000 in
set_option maxRecDepth 100000 in
theorem moneys_in (ok : Nat → Prop) (A : Option Addr) (n c : Nat) (xs : List (Nat × Nat)) (w : World) (hr : RdV w ok 2 A n (prs xs)) (hx : xs.length = n) (hok : ∀ k, ok k → k < w.heap.size) (hn : n ≤ 13000000000000) :
    Calls Tryd.prog 41 #[.slice A n c] w fun e w' => ∃ v', e = .returned v' ∧ w'.ownsRow w.heap.size 2 1 v' (n * 2) (prs xs) ∧ Below w.heap.size w w' := by
  have Hr := Held.mk hr
  have Hok := Held.mk hok
  have Hn := Held.mk hn
  have hnI : (n : Int) ≤ 9223372036854775807 := by omega
  clear hr hok hn
  go_enter Tryd.func41, Tryd.ntmps41
  go_wp2_with fail
  go_loopw [3, 4] (fun u i wr => ∃ (k : Nat), i = .int .i64 k ∧ k ≤ n ∧ Held (wr.ownsRow w.heap.size 2 1 u (k * 2) (prs (xs.take k))) ∧ Held (Below w.heap.size w wr)) (fun _ i _ => n - (intOf i).toNat)
  case atStart => exact ⟨0, rfl, Nat.zero_le _, ⟨own_nil _ _ _ _⟩, ⟨Below.refl _ _⟩⟩
  case round =>
    obtain ⟨k, rfl, hk, HO, HB⟩ := hrel
    obtain ⟨A1, c1, rfl, _⟩ := own_slice1 HO.out
    by_cases hlt : k < n
    · obtain ⟨ad, rfl, hokb, hc⟩ := Hr.out.2 (by omega)
      obtain ⟨p1, p2⟩ := prs_at xs k (by omega)
      have d1 := (Keep.of_below HB.out (fun _ => False)).cell (hc _ _ p1) (fun h => h)
      have d2 := (Keep.of_below HB.out (fun _ => False)).cell (hc _ _ p2) (fun h => h)
      rw [← add_of_add] at d2
      have t1 : prs (xs.take (k + 1)) = prs (xs.take k) ++ [.int .i64 (xs[k]).1, .int .i64 (xs[k]).2] := by rw [List.take_succ_eq_append_getElem (by omega), prs_append]; rfl
      generalize (xs[k]).1 = y1 at *
      generalize (xs[k]).2 = y2 at *
      have HT1 := Held.mk t1
      have hb := Hok.out _ hokb
      have HNe : Held (¬ (Value.slice A1 (k * 2) c1).ownBlock = some (ad.add (k * 2)).block) := ⟨fun h => by
        rw [block_of_add] at h
        have := own_ge HO.out _ h
        omega⟩
      have hlt2 : (ad.add (k * 2)).block < wr.heap.size := by rw [block_of_add]; have := HB.out.size; omega
      have HD1 : Held (∀ o, (wr.alloc o).cell? (ad.add (k * 2)) = some (.int .i64 y1)) := ⟨fun o => ((Keep.refl (fun _ => False) wr).alloc o).cell d1 (fun h => h)⟩
      have HD2 : Held (∀ o, (wr.alloc o).cell? ⟨(ad.add (k * 2)).block, (ad.add (k * 2)).off + 1, none⟩ = some (.int .i64 y2)) := ⟨fun o => ((Keep.refl (fun _ => False) wr).alloc o).cell d2 (fun h => h)⟩
      have d2' : wr.cell? ⟨(ad.add (k * 2)).block, (ad.add (k * 2)).off + 1, none⟩ = some (.int .i64 y2) := d2
      have HC3 : Held ((k * 2 + 2 + (k * 2 + 2) / 4 + 192) * 8 ≤ 281474976710656) := ⟨by have := Hn.out; omega⟩
      have HC4 : Held (∀ o, w.heap.size ≤ (wr.alloc o).heap.size) := ⟨fun o => by have := HB.out.size; simp; omega⟩
      clear t1 hb p1 p2 hc d2
      go_wp2_with fail
      go_region_held_law (fun w' => w'.cell? (ad.add (k * 2)) = some (.int .i64 y1) ∧ w'.cell? ⟨(ad.add (k * 2)).block, (ad.add (k * 2)).off + 1, none⟩ = some (.int .i64 y2)) (go_keep)
        ((refine stepS w.heap.size rfl (.tmp 11) (.tmp 22) 85 2 (.int .i64 0) 1 8 rfl Tryd.underlying85 info_i64 rfl (by decide) (by decide) _ (k * 2) (prs (xs.take k)) rfl (by exact HO.out.alloc _) (fun _ => True) (some ⟨wr.heap.size, 0, none⟩) 2 2 [.int .i64 y1, .int .i64 y2] rfl ⟨rfl, fun _ => ⟨_, rfl, trivial, World.news_of_block (cs := #[.int .i64 y1, .int .i64 y2]) (t := 2) (fr := (0, 0)) (heap_alloc_new _ _)⟩⟩ (two_one _ _) HC3.out (by exact HC4.out _) ?_; intro v2 w3 ho3 hg3 hat3; have e1 := (Keep.of_grown hg3).cell (a := ad.add (k * 2)) (by exact HD1.out _) (by exact HNe.out); have e2 := (Keep.of_grown hg3).cell (a := ⟨(ad.add (k * 2)).block, (ad.add (k * 2)).off + 1, none⟩) (by exact HD2.out _) (by exact HNe.out)))
      have hg3' : (wr.alloc (.cells #[.int .i64 y1, .int .i64 y2] 2)).grownBy w3 (Value.slice A1 (k * 2) c1).ownBlock := ⟨hg3.os, hg3.tape, hg3.output, hg3.size, hg3.block⟩
      have HB3 : Held (Below w.heap.size w w3) := ⟨(((Keep.of_below HB.out (fun _ => False)).alloc _).grown hg3' (fun b hb e => absurd hb (Nat.not_lt.2 (own_ge HO.out b e)))).to_below (fun _ _ h => h)⟩
      have HO3 : Held (w3.ownsRow w.heap.size 2 1 v2 ((k + 1) * 2) (prs (xs.take (k + 1)))) := ⟨by rw [HT1.out, show (k + 1) * 2 = k * 2 + 2 from by omega]; exact ho3⟩
      clear hg3 hg3' hat3 ho3 e1 e2 d1 d2' HC3 HC4
      go_wp2_with fail
      go_roundw
      case rel => exact ⟨k + 1, by go_num, by omega, HO3, HB3⟩
      case measure => simp [intOf]; omega
    · have hk2 : k = n := by omega
      subst hk2
      go_wp2
      go_ret
      refine ⟨_, rfl, ?_, HB.out⟩
      have := HO.out
      rw [List.take_of_length_le (by omega)] at this
      exact this
set_option maxHeartbeats 4000000 in
set_option maxRecDepth 100000 in
theorem sameLongs_in (ok ok2 : Nat → Prop) (A A2 : Option Addr) (n c c2 : Nat) (zs : List Int) (w : World) (hr : RdN w ok .i64 A n zs) (hr2 : RdN w ok2 .i64 A2 n zs) (hn : n ≤ 30000000000000) :
    Calls Tryd.prog 42 #[.slice A n c, .slice A2 n c2] w fun e w' => e = .returned (.bool true) ∧ ∃ m, w' = w.drewN m := by
  have Hr := Held.mk hr
  have Hr2 := Held.mk hr2
  have hnI : (n : Int) ≤ 9223372036854775807 := by omega
  clear hr hr2 hn
  go_enter Tryd.func42, Tryd.ntmps42
  go_wp2_with fail
  go_loopw [5] (fun i wr => ∃ (k m : Nat), i = .int .i64 k ∧ k ≤ n ∧ wr = w.drewN m) (fun i _ => n - (intOf i).toNat)
  case atStart => exact ⟨0, 0, rfl, Nat.zero_le _, rfl⟩
  case round =>
    obtain ⟨k, m, rfl, hk, rfl⟩ := hrel
    by_cases hlt : k < n
    · obtain ⟨ad, rfl, h1⟩ := RdN.at_ Hr.out hlt
      obtain ⟨ad2, rfl, h2⟩ := RdN.at_ Hr2.out hlt
      generalize zs.getD k 0 = z at *
      go_wp2_with fail
      go_quiet (fail)
      go_wp2_with fail
      go_roundw
      case rel => exact ⟨k + 1, _, by go_num, by omega, rfl⟩
      case measure => simp [intOf]; omega
    · go_wp2
      go_ret
      exact ⟨rfl, _, rfl⟩
end Prt
end Go.Proofs.YtpbkmkclagikhaaDoor
