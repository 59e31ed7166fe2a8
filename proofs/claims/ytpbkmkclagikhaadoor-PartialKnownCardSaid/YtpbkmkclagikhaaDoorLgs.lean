/- Legs, the document's Legs: walked. -/
import Derived.Test.YtpbkmkclagikhaaDoorLeg
namespace Go.Proofs.YtpbkmkclagikhaaDoor
set_option linter.unusedVariables false
set_option linter.unusedSimpArgs false
namespace Prt
open Go.RowKit Mem Dvs Err
theorem info_leg : (Tryd.prog.info? 76).map (fun i => (i.zero, i.size, i.bytes)) = some (some (.agg #[.int .i64 0, .int .i64 0, .int .i64 0, .int .i64 0, .int .i64 0]), 5, 40) := by kernel_rfl
def errV (k : Int) : Value := if k = 0 then .nilIface else .iface 66 (.agg #[.int .i64 k])
theorem own_one5 (w : World) (a b c d e : Int) : (w.alloc (.cells #[.int .i64 a, .int .i64 b, .int .i64 c, .int .i64 d, .int .i64 e] 76)).ownsRow w.heap.size 76 5 (.slice (some ⟨w.heap.size, 0, none⟩) 1 1) 1 [.int .i64 a, .int .i64 b, .int .i64 c, .int .i64 d, .int .i64 e] :=
  ⟨rfl, .inr ⟨w.heap.size, 1, #[.int .i64 a, .int .i64 b, .int .i64 c, .int .i64 d, .int .i64 e], rfl, Nat.le_refl _, heap_alloc_new w _, Nat.le_refl _, by simp [maxLen], by simp, by simp⟩⟩
set_option maxHeartbeats 4000000 in
set_option maxRecDepth 100000 in
theorem legs_in (x0 x1 x2 x3 x4 x5 k : Int) (L : List Lg) (w : World) (h : LegsR x0 x1 x2 x3 x4 x5 k L) :
    Calls Tryd.prog 16 #[.int .i64 x0, .int .i64 x1, .int .i64 x2, .int .i64 x3, .int .i64 x4, .int .i64 x5] w fun e w' => ∃ v, e = .returned (.tuple #[v, errV k]) ∧ w'.ownsRow w.heap.size 76 5 v L.length (L.flatMap Lg.cells) ∧ Below w.heap.size w w' := by
  have HB := Held.mk between_in
  unfold LegsR at h
  rcases h with ⟨c0, rfl, rfl⟩ | ⟨c0, c1, rfl, rfl⟩ | ⟨c0, c1, c2, rfl, rfl⟩ | ⟨c0, c1, c2, c3, rfl, rfl⟩ | ⟨c0, c1, c2, c3, c4, rfl, rfl⟩ | ⟨c0, c1, c2, c3, c4, c5, rfl, rfl⟩ | ⟨c0, c1, c2, c3, c4, c5, c6, rfl, rfl⟩ | ⟨c0, c1, c2, c3, c4, c5, c6, c7, rfl, rfl⟩ | ⟨c0, c1, c2, c3, c4, c5, c6, c7, c8, rfl, rfl⟩ | ⟨c0, c1, c2, c3, c4, c5, c6, c7, c8, rfl, rfl⟩
  iterate 9
    · go_enter Tryd.func16, Tryd.ntmps16
      go_wp2_with (go_at_call 35; refine (HB.out _ _).mono ?_; rintro e w1 ⟨rfl, hw⟩; rw [hw]; clear hw)
      go_ret2
      first
        | exact ⟨_, rfl, own_nil _ _ _ _, Below.refl _ _⟩
        | exact ⟨_, rfl, own_one5 _ _ _ _ _ _, (Below.refl _ _).alloc (Nat.le_refl _) _⟩
  · have HO1 : Held (((w.alloc (.cells #[.int .i64 x0, .int .i64 x1, .int .i64 x2, .int .i64 x4, .int .i64 0] 76)).alloc (.cells #[.int .i64 x1, .int .i64 x0, .int .i64 x3, .int .i64 x5, .int .i64 0] 76)).ownsRow w.heap.size 76 5 (.slice (some ⟨w.heap.size, 0, none⟩) 1 1) 1 [.int .i64 x0, .int .i64 x1, .int .i64 x2, .int .i64 x4, .int .i64 0]) := ⟨(own_one5 w x0 x1 x2 x4 0).alloc _⟩
    have HRd : Held (RdV ((w.alloc (.cells #[.int .i64 x0, .int .i64 x1, .int .i64 x2, .int .i64 x4, .int .i64 0] 76)).alloc (.cells #[.int .i64 x1, .int .i64 x0, .int .i64 x3, .int .i64 x5, .int .i64 0] 76)) (fun _ => True) 5 (some ⟨w.heap.size + 1, 0, none⟩) 1 (Lg.cells ⟨x1, x0, x3, x5, 0⟩)) :=
      ⟨rfl, fun _ => ⟨_, rfl, trivial, by
        have := World.news_of_block (cs := #[.int .i64 x1, .int .i64 x0, .int .i64 x3, .int .i64 x5, .int .i64 0]) (t := 76) (fr := (0, 0)) (heap_alloc_new (w.alloc (.cells #[.int .i64 x0, .int .i64 x1, .int .i64 x2, .int .i64 x4, .int .i64 0] 76)) (.cells #[.int .i64 x1, .int .i64 x0, .int .i64 x3, .int .i64 x5, .int .i64 0] 76))
        rw [World.size_alloc] at this
        exact this⟩⟩
    have HS : Held (w.heap.size ≤ ((w.alloc (.cells #[.int .i64 x0, .int .i64 x1, .int .i64 x2, .int .i64 x4, .int .i64 0] 76)).alloc (.cells #[.int .i64 x1, .int .i64 x0, .int .i64 x3, .int .i64 x5, .int .i64 0] 76)).heap.size) := ⟨by simp; omega⟩
    go_enter Tryd.func16, Tryd.ntmps16
    go_wp2_with (first
      | (go_at_call 35; refine (HB.out _ _).mono ?_; rintro e w1 ⟨rfl, hw⟩; rw [hw]; clear hw)
      | ((at_builtin; go_loud (refine appS _ w.heap.size rfl (.tmp 65) (.tmp 71) 34 76 (.agg #[.int .i64 0, .int .i64 0, .int .i64 0, .int .i64 0, .int .i64 0]) 5 40 rfl Tryd.underlying34 info_leg rfl (by decide) (by decide) _ 1 _ rfl HO1.out (fun _ => True) (some ⟨w.heap.size + 1, 0, none⟩) 1 1 (Lg.cells ⟨x1, x0, x3, x5, 0⟩) rfl HRd.out (Lg.one_ _) (by decide) HS.out ?_)); (intro v2 w3 ho3 hg3 hat3); (have HO3 := Held.mk ho3); (have HG3 := Held.mk hg3); (clear ho3 hg3 hat3)))
    go_ret2
    refine ⟨_, rfl, HO3.out, ((((Keep.refl (fun _ => False) w).alloc _).alloc _).grown (by exact HG3.out) (fun k hk e => ?_)).to_below (fun _ _ h => h)⟩
    simp [Value.ownBlock, Act.eval] at e
    omega
set_option maxHeartbeats 4000000 in
set_option maxRecDepth 100000 in
theorem rlegs_in (x0 x1 x2 x3 x4 x5 k : Int) (L : List Lg) (w : World) (h : LegsR x0 x1 x2 x3 x4 x5 k L) :
    Calls Tryd.prog 15 #[.int .i64 x0, .int .i64 x1, .int .i64 x2, .int .i64 x3, .int .i64 x4, .int .i64 x5] w fun e w' => ∃ v, e = .returned (.tuple #[v, .int .i64 k]) ∧ w'.ownsRow w.heap.size 76 5 v L.length (L.flatMap Lg.cells) ∧ Below w.heap.size w w' := by
  have HB := Held.mk account_in
  have HC := Held.mk asset_in
  unfold LegsR at h
  rcases h with ⟨c0, rfl, rfl⟩ | ⟨c0, c1, rfl, rfl⟩ | ⟨c0, c1, c2, rfl, rfl⟩ | ⟨c0, c1, c2, c3, rfl, rfl⟩ | ⟨c0, c1, c2, c3, c4, rfl, rfl⟩ | ⟨c0, c1, c2, c3, c4, c5, rfl, rfl⟩ | ⟨c0, c1, c2, c3, c4, c5, c6, rfl, rfl⟩ | ⟨c0, c1, c2, c3, c4, c5, c6, c7, rfl, rfl⟩ | ⟨c0, c1, c2, c3, c4, c5, c6, c7, c8, rfl, rfl⟩ | ⟨c0, c1, c2, c3, c4, c5, c6, c7, c8, rfl, rfl⟩
  iterate 9
    · go_enter Tryd.func15, Tryd.ntmps15
      go_wp2_with (first
      | (go_at_call 33; refine (HB.out _ _).mono ?_; rintro e w1 ⟨rfl, hw⟩; rw [hw]; clear hw)
      | (go_at_call 34; refine (HC.out _ _).mono ?_; rintro e w1 ⟨rfl, hw⟩; rw [hw]; clear hw))
      go_ret2
      first
        | exact ⟨_, rfl, own_nil _ _ _ _, Below.refl _ _⟩
        | exact ⟨_, rfl, own_one5 _ _ _ _ _ _, (Below.refl _ _).alloc (Nat.le_refl _) _⟩
  · have HO1 : Held (((w.alloc (.cells #[.int .i64 x0, .int .i64 x1, .int .i64 x2, .int .i64 x4, .int .i64 0] 76)).alloc (.cells #[.int .i64 x1, .int .i64 x0, .int .i64 x3, .int .i64 x5, .int .i64 0] 76)).ownsRow w.heap.size 76 5 (.slice (some ⟨w.heap.size, 0, none⟩) 1 1) 1 [.int .i64 x0, .int .i64 x1, .int .i64 x2, .int .i64 x4, .int .i64 0]) := ⟨(own_one5 w x0 x1 x2 x4 0).alloc _⟩
    have HRd : Held (RdV ((w.alloc (.cells #[.int .i64 x0, .int .i64 x1, .int .i64 x2, .int .i64 x4, .int .i64 0] 76)).alloc (.cells #[.int .i64 x1, .int .i64 x0, .int .i64 x3, .int .i64 x5, .int .i64 0] 76)) (fun _ => True) 5 (some ⟨w.heap.size + 1, 0, none⟩) 1 (Lg.cells ⟨x1, x0, x3, x5, 0⟩)) :=
      ⟨rfl, fun _ => ⟨_, rfl, trivial, by
        have := World.news_of_block (cs := #[.int .i64 x1, .int .i64 x0, .int .i64 x3, .int .i64 x5, .int .i64 0]) (t := 76) (fr := (0, 0)) (heap_alloc_new (w.alloc (.cells #[.int .i64 x0, .int .i64 x1, .int .i64 x2, .int .i64 x4, .int .i64 0] 76)) (.cells #[.int .i64 x1, .int .i64 x0, .int .i64 x3, .int .i64 x5, .int .i64 0] 76))
        rw [World.size_alloc] at this
        exact this⟩⟩
    have HS : Held (w.heap.size ≤ ((w.alloc (.cells #[.int .i64 x0, .int .i64 x1, .int .i64 x2, .int .i64 x4, .int .i64 0] 76)).alloc (.cells #[.int .i64 x1, .int .i64 x0, .int .i64 x3, .int .i64 x5, .int .i64 0] 76)).heap.size) := ⟨by simp; omega⟩
    go_enter Tryd.func15, Tryd.ntmps15
    go_wp2_with (first
      | (go_at_call 33; refine (HB.out _ _).mono ?_; rintro e w1 ⟨rfl, hw⟩; rw [hw]; clear hw)
      | (go_at_call 34; refine (HC.out _ _).mono ?_; rintro e w1 ⟨rfl, hw⟩; rw [hw]; clear hw)
      | ((at_builtin; go_loud (refine appS _ w.heap.size rfl (.tmp 53) (.tmp 59) 34 76 (.agg #[.int .i64 0, .int .i64 0, .int .i64 0, .int .i64 0, .int .i64 0]) 5 40 rfl Tryd.underlying34 info_leg rfl (by decide) (by decide) _ 1 _ rfl HO1.out (fun _ => True) (some ⟨w.heap.size + 1, 0, none⟩) 1 1 (Lg.cells ⟨x1, x0, x3, x5, 0⟩) rfl HRd.out (Lg.one_ _) (by decide) HS.out ?_)); (intro v2 w3 ho3 hg3 hat3); (have HO3 := Held.mk ho3); (have HG3 := Held.mk hg3); (clear ho3 hg3 hat3)))
    go_ret2
    refine ⟨_, rfl, HO3.out, ((((Keep.refl (fun _ => False) w).alloc _).alloc _).grown (by exact HG3.out) (fun k hk e => ?_)).to_below (fun _ _ h => h)⟩
    simp [Value.ownBlock, Act.eval] at e
    omega
end Prt
end Go.Proofs.YtpbkmkclagikhaaDoor
