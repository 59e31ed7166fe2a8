/- Lists of pairs that are lent. -/
import Derived.Test.YtgmanmbicoofgaaDoorFit
import Derived.Test.YtgmanmbicoofgaaDoorEq2
import Derived.Deep.QuietTactic
import Derived.BigQuiet
namespace Go.Proofs.YtgmanmbicoofgaaDoor
set_option linter.unusedVariables false
set_option linter.unusedSimpArgs false
namespace Ktw
open Go.RowKit Mem Grp _root_.Go.Proofs.YtgmanmbicoofgaaDoor.Ord
def tcells (l : List Two) : List Value := l.flatMap Two.cells
theorem tcells_len (l : List Two) : (tcells l).length = l.length * 2 := by
  unfold tcells
  induction l with
  | nil => rfl
  | cons a l ih => rw [List.flatMap_cons, List.length_append, ih, Two.cells_len, List.length_cons]; omega
theorem tcells_one (l : List Two) : ∀ u ∈ tcells l, u.oneCell' = true := by
  intro u hu
  unfold tcells at hu
  obtain ⟨p, _, h⟩ := List.mem_flatMap.1 hu
  simp [Two.cells] at h
  rcases h with rfl | rfl <;> rfl
def mkT (k : Nat) (i : Int) : Two := ⟨-10 - (k : Int), i⟩
def marks (n : Nat) : List Two := (List.range n).map fun (i : Nat) => mkT 90 i
theorem marks_succ (n : Nat) : marks (n + 1) = marks n ++ [mkT 90 n] := by simp [marks, List.range_succ]
theorem marks_length (n : Nat) : (marks n).length = n := by simp [marks]
set_option maxHeartbeats 1000000 in
set_option maxRecDepth 100000 in
theorem mark_any (k : Nat) (i : Int) (w : World) (hk : k ≤ 1000000) :
    Calls Tryd.prog 71 #[.int .i64 k, .int .i64 i] w fun e w' => e = .returned (.agg #[.int .i64 (-10 - (k : Int)), .int .i64 i]) ∧ Below w.heap.size w w' := by
  have hkI : (k : Int) ≤ 1000000 := by omega
  clear hk
  go_enter Tryd.func71, Tryd.ntmps71
  go_wp2
  have HN := Blk.new w 73 #[.int .i64 (-10 - (k : Int)), .int .i64 i]
  refine bodyPost_ret (results_cell_row rfl _ _ w.heap.size 73 #[.int .i64 (-10 - (k : Int)), .int .i64 i] (0, 0) _ rfl HN Tryd.underlying73 rfl (by kernel_rfl)) rfl ?_
  exact ⟨rfl, (Below.refl _ _).alloc (Nat.le_refl _) _⟩
/-- A row of one's own of pairs. -/
def OwnT (w : World) (base : Nat) (v : Value) (l : List Two) : Prop := w.ownsRow base 73 2 v l.length (tcells l)
section
variable {P : Program} {w : World}
end
set_option maxHeartbeats 1000000 in
set_option maxRecDepth 100000 in
theorem full_any (A : Option Addr) (n c : Nat) (xs : List Two) (w : World) (hn : n = xs.length) (hr : RdT w (fun k => k < w.heap.size) A xs) (hl : n ≤ 8796093022208) :
    Calls Tryd.prog 41 #[.slice A n c] w fun e w' => ∃ v, e = .returned v ∧ OwnT w' w.heap.size v (xs ++ marks 16) ∧ Below w.heap.size w w' := by
  have HR := Held.mk hr
  have HN := Held.mk hn
  clear hr hn
  have hnI : (n : Int) ≤ 8796093022208 := by omega
  go_enter Tryd.func41, Tryd.ntmps41
  go_wp2_with fail
  go_loopw [3, 4] (fun v i wr => ∃ k : Nat, i = .int .i64 k ∧ k ≤ n ∧ Held (OwnT wr w.heap.size v (xs.take k)) ∧ Held (Below w.heap.size w wr)) (fun _ i _ => n - (intOf i).toNat)
  case atStart => exact ⟨0, rfl, Nat.zero_le _, ⟨own_nil _ _ _ _⟩, ⟨Below.refl _ _⟩⟩
  case round =>
    obtain ⟨k, rfl, hk, HO, HB⟩ := hrel
    by_cases hlt : k < n
    · have hkl : k < xs.length := by have := HN.out; omega
      obtain ⟨ad, rfl, hab, c0, c1⟩ := (show RdT wr (fun k => k < w.heap.size) A xs from RdV.keep HR.out (Keep.of_below HB.out (fun _ => False)) (fun _ _ h => h)).at_ hkl
      have HT : Held (xs.take (k + 1) = xs.take k ++ [⟨xs[k].a, xs[k].b⟩]) := ⟨by rw [List.take_succ_eq_append_getElem hkl]⟩
      have hlk : (xs.take k).length ≤ k := List.length_take_le _ _
      generalize xs[k].a = xa at *
      generalize xs[k].b = xb at *
      obtain ⟨Ao, co, rfl, hco⟩ := own_slice_ HO.out
      generalize hys : xs.take k = ys at *
      clear hys
      have HL3 : Held ((ys.length + 1 + (ys.length + 1) / 4 + 192) * 16 ≤ 281474976710656) := ⟨by omega⟩
      have HRx : Held (RdV (wr.alloc (.cells #[.int .i64 xa, .int .i64 xb] 73)) (fun _ => True) 2 (some ⟨wr.heap.size, 0, none⟩) 1 [.int .i64 xa, .int .i64 xb]) := ⟨rfl, fun _ => ⟨_, rfl, trivial, World.news_of_block (cs := #[.int .i64 xa, .int .i64 xb]) (t := 73) (fr := (0, 0)) (heap_alloc_new _ _)⟩⟩
      have HOx : Held ((wr.alloc (.cells #[.int .i64 xa, .int .i64 xb] 73)).ownsRow w.heap.size 73 2 (.slice Ao ys.length co) ys.length (tcells ys)) := ⟨HO.out.alloc _⟩
      have HX : Held (w.heap.size ≤ (wr.alloc (.cells #[.int .i64 xa, .int .i64 xb] 73)).heap.size) := ⟨by have := HB.out.size; simp; omega⟩
      go_wp2_with ((at_builtin; go_loud (refine appS _ w.heap.size rfl (.tmp 12) (.tmp 17) 22 73 (.agg #[.int .i64 0, .int .i64 0]) 2 16 rfl under_twos info_two rfl (by decide) (by decide) (.slice Ao ys.length co) ys.length (tcells ys) rfl HOx.out (fun _ => True) (some ⟨wr.heap.size, 0, none⟩) 1 1 [.int .i64 xa, .int .i64 xb] rfl HRx.out (two_one_ _ _) HL3.out HX.out ?_)); (intro v2 w3 ho3 hg3 hat3))
      have HBn : Held (Below w.heap.size w w3) := ⟨(((Keep.of_below HB.out (fun _ => False)).alloc _).grown hg3 (fun i hi e => by have := own_ge HO.out i e; omega)).to_below (fun _ _ h => h)⟩
      have HOn : Held (OwnT w3 w.heap.size v2 (xs.take (k + 1))) := ⟨by
        rw [HT.out]
        unfold OwnT tcells
        rw [List.length_append, List.flatMap_append]
        exact ho3⟩
      clear hg3 hat3 ho3 HO HB HOx HRx HX
      go_roundw
      case rel => exact ⟨k + 1, by go_num, by omega, HOn, HBn⟩
      case measure => simp [intOf]; omega
    · have ek : xs.take k = xs := List.take_of_length_le (by have := HN.out; omega)
      rw [ek] at HO
      clear ek
      generalize wr = wm at *
      go_wp2_with fail
      go_loopw [3, 5] (fun v i wr => ∃ k : Nat, i = .int .i64 k ∧ k ≤ 16 ∧ Held (OwnT wr w.heap.size v (xs ++ marks k)) ∧ Held (Below w.heap.size w wr)) (fun _ i _ => 16 - (intOf i).toNat)
      case atStart => exact ⟨0, rfl, by omega, ⟨by simpa [marks] using HO.out⟩, HB⟩
      case round =>
        obtain ⟨j, rfl, hj, HOj, HBj⟩ := hrel
        clear HO HB
        obtain ⟨Ao, co, rfl, hco⟩ := own_slice_ HOj.out
        have hlj : (xs ++ marks j).length = n + j := by rw [List.length_append, marks_length, HN.out]
        by_cases hlt2 : j < 16
        · have HT : Held (xs ++ marks (j + 1) = (xs ++ marks j) ++ [mkT 90 j]) := ⟨by rw [marks_succ, List.append_assoc]⟩
          have HMk := Held.mk (fun W => mark_any 90 (j : Int) W (by omega))
          generalize hys : xs ++ marks j = ys at *
          have hjI : (j : Int) < 16 := by omega
          clear hys
          have hlx : ys.length = n + j := hlj
          have HL3 : Held ((ys.length + 1 + (ys.length + 1) / 4 + 192) * 16 ≤ 281474976710656) := ⟨by omega⟩
          clear hlj hlx
          go_wp2_with fail
          refine (HMk.out _).mono ?_
          rintro e w2 ⟨rfl, hb2⟩
          have HB2 : Held (Below w.heap.size w w2) := ⟨HBj.out.trans (hb2.mono HBj.out.size)⟩
          have HRx : Held (RdV (w2.alloc (.cells #[.int .i64 (-100), .int .i64 (j : Int)] 73)) (fun _ => True) 2 (some ⟨w2.heap.size, 0, none⟩) 1 [.int .i64 (-100), .int .i64 (j : Int)]) := ⟨rfl, fun _ => ⟨_, rfl, trivial, World.news_of_block (cs := #[.int .i64 (-100), .int .i64 (j : Int)]) (t := 73) (fr := (0, 0)) (heap_alloc_new _ _)⟩⟩
          have HOx : Held ((w2.alloc (.cells #[.int .i64 (-100), .int .i64 (j : Int)] 73)).ownsRow w.heap.size 73 2 (.slice Ao ys.length co) ys.length (tcells ys)) := ⟨((Keep.of_below hb2 (fun _ => False)).own HOj.out (fun _ _ h => h)).alloc _⟩
          have HX : Held (w.heap.size ≤ (w2.alloc (.cells #[.int .i64 (-100), .int .i64 (j : Int)] 73)).heap.size) := ⟨by have := HB2.out.size; simp; omega⟩
          clear hb2 HMk HBj
          go_wp2_with ((at_builtin; go_loud (refine appS _ w.heap.size rfl (.tmp 23) (.tmp 26) 22 73 (.agg #[.int .i64 0, .int .i64 0]) 2 16 rfl under_twos info_two rfl (by decide) (by decide) (.slice Ao ys.length co) ys.length (tcells ys) rfl HOx.out (fun _ => True) (some ⟨w2.heap.size, 0, none⟩) 1 1 [.int .i64 (-100), .int .i64 (j : Int)] rfl HRx.out (two_one_ _ _) HL3.out HX.out ?_)); (intro v2 w3 ho3 hg3 hat3))
          have HBn : Held (Below w.heap.size w w3) := ⟨(((Keep.of_below HB2.out (fun _ => False)).alloc _).grown hg3 (fun i hi e => by have := own_ge HOj.out i e; omega)).to_below (fun _ _ h => h)⟩
          have HOn : Held (OwnT w3 w.heap.size v2 (xs ++ marks (j + 1))) := ⟨by
            rw [HT.out]
            unfold OwnT tcells
            rw [List.length_append, List.flatMap_append]
            exact ho3⟩
          clear hg3 hat3 ho3 HOj HB2 HOx HRx HX
          go_roundw
          case rel => exact ⟨j + 1, by go_num, by omega, HOn, HBn⟩
          case measure => simp [intOf]; omega
        · obtain rfl : j = 16 := by omega
          go_wp2_with fail
          go_ret
          exact ⟨_, rfl, HOj.out, HBj.out⟩
set_option maxHeartbeats 4000000 in
set_option maxRecDepth 100000 in
theorem keptFull_any (ok : Nat → Prop) (A A' : Option Addr) (n c c' m : Nat) (xs : List Two) (w : World) (hn : n = xs.length) (hm : m = n + 16) (hr : RdT w ok A (xs ++ marks 16)) (hr' : RdT w (fun k => k < w.heap.size) A' xs) (hl : n ≤ 8796093022208) :
    Calls Tryd.prog 49 #[.slice A m c, .slice A' n c'] w fun e w' => e = .returned (.bool true) ∧ Below w.heap.size w w' := by
  have HN := Held.mk hn
  have Hm := Held.mk hm
  have h0 : ((m : Int) != n + 16) = false := by simp; omega
  have Hr := Held.mk hr
  have Hr' := Held.mk hr'
  have hmI : m ≤ 8796093022224 := by omega
  clear hr hr' hn hm
  go_enter Tryd.func49, Tryd.ntmps49
  go_wp2_with fail
  go_loopw [5] (fun i wr => ∃ k : Nat, i = .int .i64 k ∧ k ≤ m ∧ Held (Below w.heap.size w wr)) (fun i _ => m - (intOf i).toNat)
  case atStart => exact ⟨0, rfl, Nat.zero_le _, ⟨Below.refl _ _⟩⟩
  case round =>
    obtain ⟨k, rfl, hk, HB⟩ := hrel
    by_cases hlt : k < m
    · have hkl : k < (xs ++ marks 16).length := by rw [List.length_append, marks_length]; have := HN.out; have := Hm.out; omega
      have Hrw : Held (∀ W, Keep (fun _ => False) wr W → RdT W ok A (xs ++ marks 16)) := ⟨fun W hW => RdV.keep Hr.out ((Keep.of_below HB.out _).trans hW) (fun _ _ h => h)⟩
      have HMk := Held.mk (fun (i : Int) W => mark_any 90 i W (by omega))
      by_cases hkn : k < n
      · have hkx : k < xs.length := by have := HN.out; omega
        have HRx : Held (∀ W, Keep (fun _ => False) wr W → RdT W (fun k => k < w.heap.size) A' xs) := ⟨fun W hW => RdV.keep Hr'.out ((Keep.of_below HB.out _).trans hW) (fun _ _ h => h)⟩
        have he : (xs ++ marks 16)[k] = xs[k] := List.getElem_append_left hkx
        go_wp2_with fail
        refine (HMk.out _ wr).mono ?_
        rintro e w2 ⟨rfl, hb2⟩
        have hk2 := Keep.of_below hb2 (fun _ => False)
        have HB2 : Held (Below w.heap.size w w2) := ⟨HB.out.trans (hb2.mono HB.out.size)⟩
        obtain ⟨ad, rfl, hoka, c0, c1⟩ := (Hrw.out _ hk2).at_ hkl
        obtain ⟨ad', rfl, hokb, d0, d1⟩ := (HRx.out _ hk2).at_ hkx
        rw [he] at c0 c1
        generalize xs[k].a = xa at *
        generalize xs[k].b = xb at *
        have c0' := ((Keep.refl (fun _ => False) w2).alloc (.cells #[.int .i64 xa, .int .i64 xb] 73)).cell c0 (fun h => h)
        have c1' := ((Keep.refl (fun _ => False) w2).alloc (.cells #[.int .i64 xa, .int .i64 xb] 73)).cell c1 (fun h => h)
        have d0' := ((Keep.refl (fun _ => False) w2).alloc (.cells #[.int .i64 (-100), .int .i64 ((k : Int) - n)] 73)).cell d0 (fun h => h)
        have d1' := ((Keep.refl (fun _ => False) w2).alloc (.cells #[.int .i64 (-100), .int .i64 ((k : Int) - n)] 73)).cell d1 (fun h => h)
        have HBn : Held (∀ q, Below w.heap.size w ((w2.alloc (.cells #[.int .i64 xa, .int .i64 xb] 73)).drewN q)) := ⟨fun q => below_drewN_ (HB2.out.alloc HB2.out.size _) q⟩
        have hEq : ∀ W : World, (Op.equalIn 10000 73 (.agg #[.int .i64 xa, .int .i64 xb]) (.agg #[.int .i64 xa, .int .i64 xb])).run Tryd.prog W = .ok true W := fun W => by simpa using eq_two 9998 xa xb xa xb W
        clear hb2 hk2 c0 c1 d0 d1 he
        go_wp2_with fail
        go_quiet (fail)
        go_wp2_with fail
        go_roundw
        case rel => exact ⟨k + 1, by go_num, by omega, ⟨HBn.out _⟩⟩
        case measure => simp [intOf]; omega
      · have he : (xs ++ marks 16)[k] = mkT 90 ((k : Int) - n) := by
          have hx := HN.out
          rw [List.getElem_append_right (by omega)]
          have : k - xs.length < 16 := by have := Hm.out; omega
          simp only [marks, List.getElem_map, List.getElem_range]
          congr 1
          omega
        go_wp2_with fail
        refine (HMk.out _ wr).mono ?_
        rintro e w2 ⟨rfl, hb2⟩
        have hk2 := Keep.of_below hb2 (fun _ => False)
        have HB2 : Held (Below w.heap.size w w2) := ⟨HB.out.trans (hb2.mono HB.out.size)⟩
        obtain ⟨ad, rfl, hoka, c0, c1⟩ := (Hrw.out _ hk2).at_ hkl
        rw [he] at c0 c1
        have c0' := ((Keep.refl (fun _ => False) w2).alloc (.cells #[.int .i64 (-100), .int .i64 ((k : Int) - n)] 73)).cell c0 (fun h => h)
        have c1' := ((Keep.refl (fun _ => False) w2).alloc (.cells #[.int .i64 (-100), .int .i64 ((k : Int) - n)] 73)).cell c1 (fun h => h)
        have HBn : Held (∀ q, Below w.heap.size w ((w2.alloc (.cells #[.int .i64 (-100), .int .i64 ((k : Int) - n)] 73)).drewN q)) := ⟨fun q => below_drewN_ (HB2.out.alloc HB2.out.size _) q⟩
        have ea : (mkT 90 ((k : Int) - n)).a = -100 := rfl
        have eb : (mkT 90 ((k : Int) - n)).b = (k : Int) - n := rfl
        rw [ea] at c0'
        rw [eb] at c1'
        have hEq : ∀ W : World, (Op.equalIn 10000 73 (.agg #[.int .i64 (-100), .int .i64 ((k : Int) - n)]) (.agg #[.int .i64 (-100), .int .i64 ((k : Int) - n)])).run Tryd.prog W = .ok true W := fun W => by simpa using eq_two 9998 (-100) ((k : Int) - n) (-100) ((k : Int) - n) W
        clear hb2 hk2 c0 c1 he ea eb
        go_wp2_with fail
        go_quiet (fail)
        go_wp2_with fail
        go_roundw
        case rel => exact ⟨k + 1, by go_num, by omega, ⟨HBn.out _⟩⟩
        case measure => simp [intOf]; omega
    · go_wp2_with fail
      go_ret
      exact ⟨rfl, HB.out⟩
/-- A list of pairs that is lent. -/
structure Lent (w : World) (base g n c : Nat) (xs : List Two) : Prop where
  own : OwnT w base (.slice (some ⟨g, 0, none⟩) (n + 16) c) (xs ++ marks 16)
  len : xs.length = n
  ge : base ≤ g
section
variable {w w' : World} {base g n c : Nat} {xs : List Two}
theorem Lent.cap (h : Lent w base g n c xs) : n + 16 ≤ c := by
  obtain ⟨_, h2 | ⟨g', cap, cur, e, _, _, hc, _⟩⟩ := h.own
  · cases h2.1
  · have := h.len
    injection e with _ e1 e2
    omega
theorem Lent.full (h : Lent w base g n c xs) : RdT w (fun k => k = g) (some ⟨g, 0, none⟩) (xs ++ marks 16) := by
  obtain ⟨A, c', e, _, hr⟩ := RdV.of_own h.own
  injection e with e1 e2 e3
  subst e1
  exact hr.mono (fun k hk => by simpa [Value.ownBlock] using hk.symm)
theorem Lent.rd (h : Lent w base g n c xs) : RdT w (fun k => k = g) (some ⟨g, 0, none⟩) xs := by
  have h2 := RdV.front h.full (k := xs.length) (by simp)
  rw [List.flatMap_append, List.take_append_of_le_length (by rw [show (xs.flatMap Two.cells).length = xs.length * 2 from tcells_len xs]; exact Nat.le_refl _), List.take_of_length_le (by rw [show (xs.flatMap Two.cells).length = xs.length * 2 from tcells_len xs]; exact Nat.le_refl _)] at h2
  exact h2
theorem Lent.keep {S : Nat → Prop} (h : Lent w base g n c xs) (hk : Keep S w w') (hs : ¬ S g) : Lent w' base g n c xs :=
  ⟨hk.own h.own (fun k hk' e => by simp [Value.ownBlock] at hk'; exact hs (hk' ▸ e)), h.len, h.ge⟩
end
set_option maxHeartbeats 1000000 in
set_option maxRecDepth 100000 in
theorem lent_any (A : Option Addr) (n c : Nat) (xs : List Two) (w : World) (hn : n = xs.length) (hr : RdT w (fun k => k < w.heap.size) A xs) (hl : n ≤ 8796093022208) :
    Calls Tryd.prog 9 #[.slice A n c] w fun e w' => ∃ g c', e = .returned (.slice (some ⟨g, 0, none⟩) n c') ∧ Lent w' w.heap.size g n c' xs ∧ Below w.heap.size w w' := by
  have HN := Held.mk hn
  have Hr := Held.mk hr
  clear hr hn
  go_enter Tryd.func9, Tryd.ntmps9
  go_wp2_with fail
  refine (full_any A n c xs w HN.out Hr.out hl).mono ?_
  rintro e w1 ⟨v, rfl, ho, hb⟩
  have hl1 : (xs ++ marks 16).length = n + 16 := by rw [List.length_append, marks_length, HN.out]
  obtain ⟨g, cap, rfl, hg, _⟩ := World.ownsRow.form (h := ho) (by rw [hl1]; omega)
  have hcap : n + 16 ≤ cap := by
    obtain ⟨_, h2 | ⟨g', cap', cur, e, _, _, hc, _⟩⟩ := ho
    · cases h2.1
    · injection e with _ e1 e2; omega
  rw [hl1] at ho ⊢
  have Ho := Held.mk ho
  have HB := Held.mk hb
  clear ho hl1 hb
  go_wp2
  go_ret
  exact ⟨g, cap, rfl, ⟨Ho.out, HN.out.symm, hg⟩, HB.out⟩
set_option maxHeartbeats 1000000 in
set_option maxRecDepth 100000 in
theorem kept_any (A' : Option Addr) (base g n c c' : Nat) (xs : List Two) (w : World) (hL : Lent w base g n c xs) (hr' : RdT w (fun k => k < w.heap.size) A' xs) (hl : n ≤ 8796093022208) :
    Calls Tryd.prog 15 #[.slice (some ⟨g, 0, none⟩) n c, .slice A' n c'] w fun e w' => e = .returned (.bool true) ∧ Below w.heap.size w w' := by
  have hcap := hL.cap
  have HL := Held.mk hL
  have Hr' := Held.mk hr'
  clear hL hr'
  have h0 : ((n : Int) != n) = false := by simp
  go_enter Tryd.func15, Tryd.ntmps15
  go_wp2_with fail
  refine (keptFull_any _ _ A' n c c' (n + 16) xs w HL.out.len.symm rfl HL.out.full Hr'.out hl).mono ?_
  rintro e w' ⟨rfl, hb⟩
  have HB := Held.mk hb
  clear hb
  go_wp2
  go_ret
  exact ⟨rfl, HB.out⟩
end Ktw
end Go.Proofs.YtgmanmbicoofgaaDoor
