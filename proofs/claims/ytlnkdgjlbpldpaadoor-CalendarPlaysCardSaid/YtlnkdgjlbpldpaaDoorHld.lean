/- held: a calendar of free days, whose list is lent. -/
import Derived.Test.YtlnkdgjlbpldpaaDoorAsk
import Derived.Test.YtlnkdgjlbpldpaaDoorKint
namespace Go.Proofs.YtlnkdgjlbpldpaaDoor
set_option linter.unusedVariables false
set_option linter.unusedSimpArgs false
namespace Cal
open Go.RowKit Mem Go.Proofs.YtlnkdgjlbpldpaaDoorW.PrintLast Err Kit

theorem results_tct {P : Program} {fn : Func} {p u v : Tmp} {ty : TypeId} (h : fn.results = #[.tmp u, .cell p ty, .tmp v]) (tmps : Array Value) (w : World) (g : Nat) (t : TypeId) (cs : Array Value) (fr : Nat × Nat) (d : TypeDesc)
    (hp : tmps.getD p undef = .pointer (some ⟨g, 0, none⟩)) (hg : w.heap[g]? = some (.cells cs t fr))
    (hu : P.underlying ty = some d) (hd : (match d with | .struct _ | .array _ _ => true | _ => false) = true) (hi : (P.info? ty).map (·.size) = some cs.size) :
    (results fn tmps).run P w = .ok (.tuple #[tmps.getD u undef, .agg cs, tmps.getD v undef]) w := by
  have hp' : tmps[p]?.getD undef = .pointer (some ⟨g, 0, none⟩) := by simpa using hp
  simp [results, h, hp', asAddr, run_loadVar_row w g t ty cs fr d hg hu hd hi]
theorem below_drew {B : Nat} {a w : World} (h : Below B a w) : Below B a w.drew := ⟨h.os, h.tape, h.output, h.size, h.block⟩
theorem CalW.set_ {w : World} {g b : Nat} {wk : List Bool} {l : List Int} (h : CalW w g b wk l) {a : Addr} (h1 : g ≠ a.block) (h2 : b ≠ a.block) (u : Value) : CalW (w.setCell a u) g b wk l := by
  obtain ⟨n, hn, hm⟩ := h.map
  have hc : ∀ k v, w.cell? ⟨g, k, none⟩ = some v → (w.setCell a u).cell? ⟨g, k, none⟩ = some v := fun k v hk => (World.cell?_of_block (w := w) (Below.heap_setCell w a u g h1)).trans hk
  exact ⟨fun k hk => hc k _ (h.day k hk), hc 7 _ h.ptr, n, hn, hm.setCell h2 u⟩
set_option maxHeartbeats 16000000 in
set_option maxRecDepth 1000000 in
theorem held_any (b0 b1 b2 b3 b4 b5 b6 : Bool) (A : Option Addr) (n c : Nat) (xs : List Int) (w : World) (hr : Lst w A n xs) (hn : n ≤ 17592186043904) (hwf : ∀ x ∈ xs, (Lit.int .i64 x).wf = true) :
    Calls Tryd.prog 22 #[.agg #[.bool b0, .bool b1, .bool b2, .bool b3, .bool b4, .bool b5, .bool b6, .slice A n c]] w fun e w' => ∃ g b, e = .returned (.tuple #[.pointer (some ⟨g, 0, none⟩), .agg #[.bool b0, .bool b1, .bool b2, .bool b3, .bool b4, .bool b5, .bool b6, .slice A n c], .bool true]) ∧ CalW w' g b [b0, b1, b2, b3, b4, b5, b6] xs ∧ Below w.heap.size w w' := by
  have HB : Held (Below w.heap.size w (((w.alloc (.cells #[.bool b0, .bool b1, .bool b2, .bool b3, .bool b4, .bool b5, .bool b6, .slice A n c] 52)).alloc (.cells #[.bool false, .bool false, .bool false, .bool false, .bool false, .bool false, .bool false, .slice none 0 0] 55)).alloc (.cells #[.bool b0, .bool b1, .bool b2, .bool b3, .bool b4, .bool b5, .bool b6, .slice A n c] 55))) := ⟨(((Below.refl _ _).alloc (Nat.le_refl _) _).alloc (by simp) _).alloc (by simp; omega) _⟩
  have HN := Held.mk (((Blk.new w 52 #[.bool b0, .bool b1, .bool b2, .bool b3, .bool b4, .bool b5, .bool b6, .slice A n c]).alloc (.cells #[.bool false, .bool false, .bool false, .bool false, .bool false, .bool false, .bool false, .slice none 0 0] 55)).alloc (.cells #[.bool b0, .bool b1, .bool b2, .bool b3, .bool b4, .bool b5, .bool b6, .slice A n c] 55))
  have HM' := (Blk.new (w.alloc (.cells #[.bool b0, .bool b1, .bool b2, .bool b3, .bool b4, .bool b5, .bool b6, .slice A n c] 52)) 55 #[.bool false, .bool false, .bool false, .bool false, .bool false, .bool false, .bool false, .slice none 0 0]).alloc (.cells #[.bool b0, .bool b1, .bool b2, .bool b3, .bool b4, .bool b5, .bool b6, .slice A n c] 55)
  have HV' := Blk.new ((w.alloc (.cells #[.bool b0, .bool b1, .bool b2, .bool b3, .bool b4, .bool b5, .bool b6, .slice A n c] 52)).alloc (.cells #[.bool false, .bool false, .bool false, .bool false, .bool false, .bool false, .bool false, .slice none 0 0] 55)) 55 #[.bool b0, .bool b1, .bool b2, .bool b3, .bool b4, .bool b5, .bool b6, .slice A n c]
  simp only [World.size_alloc] at HM' HV'
  have HM := Held.mk HM'
  have HV := Held.mk HV'
  have HL := Held.mk (hr.below HB.out)
  have Hwf := Held.mk hwf
  have Hlen := Held.mk (RdN.len hr)
  clear hr HM' HV' hwf
  generalize hW0 : w.heap.size = W0 at *
  have HW0 := Held.mk hW0
  clear hW0
  go_enter Tryd.func22, Tryd.ntmps22
  go_wp2_with fail
  generalize (((w.alloc (.cells #[.bool b0, .bool b1, .bool b2, .bool b3, .bool b4, .bool b5, .bool b6, .slice A n c] 52)).alloc (.cells #[.bool false, .bool false, .bool false, .bool false, .bool false, .bool false, .bool false, .slice none 0 0] 55)).alloc (.cells #[.bool b0, .bool b1, .bool b2, .bool b3, .bool b4, .bool b5, .bool b6, .slice A n c] 55)) = wA at *
  rw [HW0.out]
  refine (lent_any _ A n c xs wA HL.out hn).mono ?_
  rintro e w1 ⟨gl, cl, rfl, hLe, hb⟩
  have HB1 : Held (Below W0 w w1) := ⟨HB.out.trans (hb.mono (by have := HB.out.size; rw [HW0.out] at this; exact this))⟩
  have HN1 := Held.mk (HN.out.keep (Keep.of_below hb (fun _ => False)) (fun h => h))
  have HM1 := Held.mk (HM.out.keep (Keep.of_below hb (fun _ => False)) (fun h => h))
  have HV1 := Held.mk (HV.out.keep (Keep.of_below hb (fun _ => False)) (fun h => h))
  have HL1 := Held.mk (HL.out.below hb)
  have HLe1 := Held.mk hLe
  have hge := hLe.ge
  have hs := HV.out.lt
  have hgl : W0 + 1 + 1 < gl := by omega
  have hs1 := hb.size
  have HS1 : Held (wA.heap.size ≤ w1.heap.size) := ⟨hs1⟩
  clear hb hLe hge hs HB HN HM HV HL
  have k0 := HN1.out.cell 0
  have k1 := HN1.out.cell 1
  have k2 := HN1.out.cell 2
  have k3 := HN1.out.cell 3
  have k4 := HN1.out.cell 4
  have k5 := HN1.out.cell 5
  have k6 := HN1.out.cell 6
  have k7 := HN1.out.cell 7
  simp at k0 k1 k2 k3 k4 k5 k6 k7
  go_wp2_with fail
  have hrl : RdN w1 (fun k => k < w1.heap.size) .i64 (some ⟨gl, 0, none⟩) n xs := (HLe1.out.rd.lt (by decide)).mono (fun k hk => hk.2)
  refine (new_any b0 b1 b2 b3 b4 b5 b6 (some ⟨gl, 0, none⟩) n cl xs w1 hrl Hwf.out hn).mono ?_
  rintro e w2 ⟨g, b, rfl, hg, hbb, hcw, hb⟩
  have hlt := own_lt HLe1.out.own gl rfl
  have hgg : gl ≠ g := by omega
  have hg1 : W0 + 1 + 1 < g := by omega
  have hb1 : W0 + 1 + 1 < b := by omega
  have hgb : gl ≠ b := by omega
  have HB2 : Held (Below W0 w w2) := ⟨HB1.out.trans (hb.mono (by have := HB1.out.size; rw [HW0.out] at this; exact this))⟩
  have HN2 := Held.mk (HN1.out.keep (Keep.of_below hb (fun _ => False)) (fun h => h))
  have HM2 := Held.mk (HM1.out.keep (Keep.of_below hb (fun _ => False)) (fun h => h))
  have HV2 := Held.mk (HV1.out.keep (Keep.of_below hb (fun _ => False)) (fun h => h))
  have HL2 := Held.mk (HL1.out.below hb)
  have HLe2 := Held.mk (HLe1.out.keep (Keep.of_below hb (fun _ => False)) (fun h => h))
  have HC2 := Held.mk hcw
  clear hb hcw hrl hlt HB1 HN1 HM1 HV1 HL1 HLe1 k0 k1 k2 k3 k4 k5 k6 k7 hg hbb
  have k0 := HN2.out.cell 0
  have k1 := HN2.out.cell 1
  have k2 := HN2.out.cell 2
  have k3 := HN2.out.cell 3
  have k4 := HN2.out.cell 4
  have k5 := HN2.out.cell 5
  have k6 := HN2.out.cell 6
  have k7 := HN2.out.cell 7
  simp at k0 k1 k2 k3 k4 k5 k6 k7
  go_wp2_with fail
  refine (kept_any _ A _ gl n cl c xs w2 HLe2.out HL2.out (by omega)).mono ?_
  rintro e w3 ⟨rfl, m, rfl⟩
  have HB3 : Held (Below W0 w (w2.drewN m)) := ⟨below_drewN HB2.out m⟩
  have HM3 : Held (Blk (w2.drewN m) (W0 + 1) 55 #[.bool false, .bool false, .bool false, .bool false, .bool false, .bool false, .bool false, .slice none 0 0]) := ⟨HM2.out.drewN m⟩
  have HV3 : Held (Blk (w2.drewN m) (W0 + 1 + 1) 55 #[.bool b0, .bool b1, .bool b2, .bool b3, .bool b4, .bool b5, .bool b6, .slice A n c]) := ⟨HV2.out.drewN m⟩
  have HC3 := Held.mk (HC2.out.below (below_drewN (Below.refl _ _) m))
  have HLe3 := Held.mk (HLe2.out.keep (Keep.of_below (below_drewN (Below.refl _ _) m) (fun _ => False)) (fun h => h))
  clear HB2 HN2 HM2 HV2 HL2 HLe2 HC2 k0 k1 k2 k3 k4 k5 k6 k7
  generalize w2.drewN m = w3 at *
  go_wp2
  go_loopw [8] (fun i wr => ∃ k : Nat, i = .int .i64 k ∧ k ≤ n ∧ Held (∃ ys, Lent wr wA.heap.size gl n cl ys) ∧ Held (CalW wr g b [b0, b1, b2, b3, b4, b5, b6] xs) ∧ Held (Blk wr (W0 + 1) 55 #[.bool false, .bool false, .bool false, .bool false, .bool false, .bool false, .bool false, .slice none 0 0]) ∧ Held (Blk wr (W0 + 1 + 1) 55 #[.bool b0, .bool b1, .bool b2, .bool b3, .bool b4, .bool b5, .bool b6, .slice A n c]) ∧ Held (Below W0 w wr)) (fun i _ => n - (intOf i).toNat)
  case atStart => exact ⟨0, rfl, Nat.zero_le _, ⟨⟨xs, HLe3.out⟩⟩, HC3, HM3, HV3, HB3⟩
  case round =>
    obtain ⟨k, rfl, hk, HLe, HC, HM, HV, HB⟩ := hrel
    clear HLe3 HC3 HM3 HV3 HB3
    by_cases hlt : k < n
    · obtain ⟨ys, hL⟩ := HLe.out
      obtain ⟨hc1, hf1⟩ := hL.cell hlt
      generalize ys.getD k 0 = y0 at *
      have HLx := Held.mk hL
      clear hL HLe
      go_wp2
      go_roundw
      case rel => exact ⟨k + 1, by go_num, by omega, ⟨⟨_, HLx.out.set_ hlt _⟩⟩, ⟨HC.out.set_ (fun e => hgg e.symm) (fun e => hgb e.symm) _⟩, ⟨HM.out.far (by show W0 + 1 ≠ gl; omega) _⟩, ⟨HV.out.far (by show W0 + 1 + 1 ≠ gl; omega) _⟩, ⟨HB.out.setCell (by show W0 ≤ gl; omega) _⟩⟩
      case measure => simp [intOf]; omega
    · clear HLe
      have k0 := HV.out.cell 0
      have k1 := HV.out.cell 1
      have k2 := HV.out.cell 2
      have k3 := HV.out.cell 3
      have k4 := HV.out.cell 4
      have k5 := HV.out.cell 5
      have k6 := HV.out.cell 6
      have k7 := HV.out.cell 7
      have j0 := HM.out.cell 0
      have j1 := HM.out.cell 1
      have j2 := HM.out.cell 2
      have j3 := HM.out.cell 3
      have j4 := HM.out.cell 4
      have j5 := HM.out.cell 5
      have j6 := HM.out.cell 6
      have j7 := HM.out.cell 7
      have f0 := HM.out.frozen 0
      have f1 := HM.out.frozen 1
      have f2 := HM.out.frozen 2
      have f3 := HM.out.frozen 3
      have f4 := HM.out.frozen 4
      have f5 := HM.out.frozen 5
      have f6 := HM.out.frozen 6
      have f7 := HM.out.frozen 7
      simp at k0 k1 k2 k3 k4 k5 k6 k7 j0 j1 j2 j3 j4 j5 j6 j7
      go_wp2_with fail
      refine start_ (n := 5) (S := fun w' => w'.cell? ⟨W0 + 1 + 1, 0, none⟩ = some (.bool b0) ∧ w'.cell? ⟨W0 + 1 + 1, 1, none⟩ = some (.bool b1) ∧ w'.cell? ⟨W0 + 1 + 1, 2, none⟩ = some (.bool b2) ∧ w'.cell? ⟨W0 + 1 + 1, 3, none⟩ = some (.bool b3) ∧ w'.cell? ⟨W0 + 1 + 1, 4, none⟩ = some (.bool b4) ∧ w'.cell? ⟨W0 + 1 + 1, 5, none⟩ = some (.bool b5) ∧ w'.cell? ⟨W0 + 1 + 1, 6, none⟩ = some (.bool b6) ∧ w'.cell? ⟨W0 + 1 + 1, 7, none⟩ = some (.slice A n c)) (ds := [3]) #[false, false, false, false, false] (by kernel_rfl) rfl rfl ⟨k0, k1, k2, k3, k4, k5, k6, k7⟩ (fun hHeld => ?_)
      refine pure_ (i := 0) (N := some 43) (v := ?_) (a' := ?_) #[true, false, false, false, false] rfl rfl (by kernel_rfl) (fun _ _ _ h => h) (Or.inl ⟨by rfl, ?_⟩) ?_ ?_
      rotate_left
      · intro w'
        go_simp
        with_reducible rfl
      rotate_left
      · simp only [Act.put, List.setIfInBounds_toArray, List.set_cons_zero, List.set_cons_succ, i64_w, i32_w]
        rfl
      refine pure_ (i := 2) (N := some 2) (v := ?_) (a' := ?_) #[true, false, true, false, false] rfl rfl (by kernel_rfl) (fun _ _ _ h => h) (Or.inl ⟨by rfl, ?_⟩) ?_ ?_
      rotate_left
      · intro w'
        go_simp
        with_reducible rfl
      rotate_left
      · simp only [Act.put, List.setIfInBounds_toArray, List.set_cons_zero, List.set_cons_succ, i64_w, i32_w]
        rfl
      refine take_ (i := 1) (N := some 44) (v := ?_) (a' := ?_) #[true, true, true, false, false] rfl rfl (by kernel_rfl) (fun _ _ _ h => h) (Or.inl ⟨by rfl, ?_⟩) hHeld ?_ ?_
      rotate_left
      · rintro w' ⟨s0, s1, s2, s3, s4, s5, s6, s7⟩
        go_simp
        with_reducible rfl
      rotate_left
      · simp only [Act.put, List.setIfInBounds_toArray, List.set_cons_zero, List.set_cons_succ, i64_w, i32_w]
        rfl
      refine last_ (i := 3) (N := none) #[true, true, true, true, false] rfl rfl (by kernel_rfl) (by decide) (fun K hK => ?_)
      refine skip_ (w1 := ?_) (by rfl) rfl ?_ ?_
      rotate_left
      · go_simp
        rfl
      refine hK.out _ _ ?_
      clear hK K
      refine pure_ (i := 4) (N := some 4) (v := ?_) (a' := ?_) #[true, true, true, true, true] rfl rfl (by kernel_rfl) (fun _ _ _ h => h) (Or.inl ⟨by rfl, ?_⟩) ?_ ?_
      rotate_left
      · intro w'
        go_simp
        with_reducible rfl
      rotate_left
      · simp only [Act.put, List.setIfInBounds_toArray, List.set_cons_zero, List.set_cons_succ, i64_w, i32_w]
        rfl
      refine done_ (by kernel_rfl) ?_
      go_wp2
      exact bodyPost_ret (results_tct rfl _ _ (W0 + 1) 55 #[.bool b0, .bool b1, .bool b2, .bool b3, .bool b4, .bool b5, .bool b6, .slice A n c] (0, 0) _ rfl ((((((((HM.out.set_ 0 (.bool b0)).set_ 1 (.bool b1)).set_ 2 (.bool b2)).set_ 3 (.bool b3)).set_ 4 (.bool b4)).set_ 5 (.bool b5)).set_ 6 (.bool b6)).set_ 7 (.slice A n c)).drew Tryd.underlying55 rfl (by kernel_rfl)) rfl ⟨g, b, rfl, ((((((((HC.out.set_ (a := ⟨W0 + 1, 0, none⟩) (by show g ≠ W0 + 1; omega) (by show b ≠ W0 + 1; omega) (.bool b0)).set_ (a := ⟨W0 + 1, 1, none⟩) (by show g ≠ W0 + 1; omega) (by show b ≠ W0 + 1; omega) (.bool b1)).set_ (a := ⟨W0 + 1, 2, none⟩) (by show g ≠ W0 + 1; omega) (by show b ≠ W0 + 1; omega) (.bool b2)).set_ (a := ⟨W0 + 1, 3, none⟩) (by show g ≠ W0 + 1; omega) (by show b ≠ W0 + 1; omega) (.bool b3)).set_ (a := ⟨W0 + 1, 4, none⟩) (by show g ≠ W0 + 1; omega) (by show b ≠ W0 + 1; omega) (.bool b4)).set_ (a := ⟨W0 + 1, 5, none⟩) (by show g ≠ W0 + 1; omega) (by show b ≠ W0 + 1; omega) (.bool b5)).set_ (a := ⟨W0 + 1, 6, none⟩) (by show g ≠ W0 + 1; omega) (by show b ≠ W0 + 1; omega) (.bool b6)).set_ (a := ⟨W0 + 1, 7, none⟩) (by show g ≠ W0 + 1; omega) (by show b ≠ W0 + 1; omega) (.slice A n c)).drew, below_drew ((((((((HB.out.setCell (p := ⟨W0 + 1, 0, none⟩) (Nat.le_succ _) (.bool b0)).setCell (p := ⟨W0 + 1, 1, none⟩) (Nat.le_succ _) (.bool b1)).setCell (p := ⟨W0 + 1, 2, none⟩) (Nat.le_succ _) (.bool b2)).setCell (p := ⟨W0 + 1, 3, none⟩) (Nat.le_succ _) (.bool b3)).setCell (p := ⟨W0 + 1, 4, none⟩) (Nat.le_succ _) (.bool b4)).setCell (p := ⟨W0 + 1, 5, none⟩) (Nat.le_succ _) (.bool b5)).setCell (p := ⟨W0 + 1, 6, none⟩) (Nat.le_succ _) (.bool b6)).setCell (p := ⟨W0 + 1, 7, none⟩) (Nat.le_succ _) (.slice A n c))⟩
end Cal
end Go.Proofs.YtlnkdgjlbpldpaaDoor
