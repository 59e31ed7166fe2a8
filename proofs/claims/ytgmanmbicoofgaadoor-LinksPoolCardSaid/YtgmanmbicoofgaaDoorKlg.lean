/- Lists of legs: read, compared, marked, lent. -/
import Derived.Test.YtgmanmbicoofgaaDoorFit
import Derived.Test.YtgmanmbicoofgaaDoorOpen
import Derived.Deep.QuietTactic
import Derived.BigQuiet
namespace Go.Proofs.YtgmanmbicoofgaaDoor
set_option linter.unusedVariables false
set_option linter.unusedSimpArgs false
namespace Klg
open Go.RowKit Mem
theorem below_drewN_ {n : Nat} {w w' : World} (h : Below n w w') (k : Nat) : Below n w (w'.drewN k) := ⟨h.os, h.tape, h.output, h.size, h.block⟩
theorem under_legs : Tryd.prog.underlying 43 = some (.slice 89) := Tryd.underlying43
theorem info_leg : (Tryd.prog.info? 89).map (fun i => (i.zero, i.size, i.bytes)) = some (some (.agg #[.int .i64 0, .int .i64 0, .int .i64 0, .int .i64 0, .int .i64 0]), 5, 40) := by kernel_rfl
structure Lg where
  a : Int
  b : Int
  c : Int
  d : Int
  e : Int
def Lg.cells (p : Lg) : List Value := [.int .i64 p.a, .int .i64 p.b, .int .i64 p.c, .int .i64 p.d, .int .i64 p.e]
theorem Lg.cells_len (p : Lg) : p.cells.length = 5 := rfl
theorem Lg.one_ (p : Lg) : ∀ u ∈ p.cells, u.oneCell' = true := by
  intro u hu
  simp only [Lg.cells, List.mem_cons, List.not_mem_nil, or_false] at hu
  rcases hu with rfl | rfl | rfl | rfl | rfl <;> rfl
def RdLg (w : World) (ok : Nat → Prop) (A : Option Addr) (L : List Lg) : Prop := RdV w ok 5 A L.length (L.flatMap Lg.cells)
theorem RdLg.at_ {w : World} {ok : Nat → Prop} {A : Option Addr} {L : List Lg} (h : RdLg w ok A L) {k : Nat} (hk : k < L.length) : ∃ ad, A = some ad ∧ ok ad.block ∧
    w.cell? (ad.add (k * 5)) = some (.int .i64 L[k].a) ∧ w.cell? ⟨(ad.add (k * 5)).block, (ad.add (k * 5)).off + 1, none⟩ = some (.int .i64 L[k].b) ∧ w.cell? ⟨(ad.add (k * 5)).block, (ad.add (k * 5)).off + 2, none⟩ = some (.int .i64 L[k].c) ∧ w.cell? ⟨(ad.add (k * 5)).block, (ad.add (k * 5)).off + 3, none⟩ = some (.int .i64 L[k].d) ∧ w.cell? ⟨(ad.add (k * 5)).block, (ad.add (k * 5)).off + 4, none⟩ = some (.int .i64 L[k].e) := by
  obtain ⟨ad, e, hb, hc⟩ := h.2 (by omega)
  refine ⟨ad, e, hb, ?_, ?_, ?_, ?_, ?_⟩
  · exact hc _ _ (by rw [← Nat.add_zero (k * 5), Law.flat_get Lg.cells 5 Lg.cells_len L k 0 hk (by omega)]; rfl)
  · have := hc (k * 5 + 1) _ (by rw [Law.flat_get Lg.cells 5 Lg.cells_len L k 1 hk (by omega)]; rfl)
    rw [← add_of_add] at this
    exact this
  · have := hc (k * 5 + 2) _ (by rw [Law.flat_get Lg.cells 5 Lg.cells_len L k 2 hk (by omega)]; rfl)
    rw [← add_of_add] at this
    exact this
  · have := hc (k * 5 + 3) _ (by rw [Law.flat_get Lg.cells 5 Lg.cells_len L k 3 hk (by omega)]; rfl)
    rw [← add_of_add] at this
    exact this
  · have := hc (k * 5 + 4) _ (by rw [Law.flat_get Lg.cells 5 Lg.cells_len L k 4 hk (by omega)]; rfl)
    rw [← add_of_add] at this
    exact this
set_option maxHeartbeats 4000000 in
set_option maxRecDepth 100000 in
theorem sameLegs_in (ok ok2 : Nat → Prop) (A A2 : Option Addr) (c c2 : Nat) (L : List Lg) (w : World) (hr : RdLg w ok A L) (hr2 : RdLg w ok2 A2 L) (hn : L.length ≤ 1000000000000) :
    Calls Tryd.prog 24 #[.slice A L.length c, .slice A2 L.length c2] w fun e w' => e = .returned (.bool true) ∧ ∃ m, w' = w.drewN m := by
  have Hr := Held.mk hr
  have Hr2 := Held.mk hr2
  have hnI : (L.length : Int) ≤ 9223372036854775807 := by omega
  clear hr hr2 hn
  go_enter Tryd.func24, Tryd.ntmps24
  go_wp2_with fail
  go_loopw [5] (fun i wr => ∃ (k m : Nat), i = .int .i64 k ∧ k ≤ L.length ∧ wr = w.drewN m) (fun i _ => L.length - (intOf i).toNat)
  case atStart => exact ⟨0, 0, rfl, Nat.zero_le _, rfl⟩
  case round =>
    obtain ⟨k, m, rfl, hk, rfl⟩ := hrel
    by_cases hlt : k < L.length
    · obtain ⟨ad, rfl, _, a0, a1, a2, a3, a4⟩ := RdLg.at_ Hr.out hlt
      obtain ⟨ad2, rfl, _, d0, d1, d2, d3, d4⟩ := RdLg.at_ Hr2.out hlt
      generalize L[k].a = z0 at *
      generalize L[k].b = z1 at *
      generalize L[k].c = z2 at *
      generalize L[k].d = z3 at *
      generalize L[k].e = z4 at *
      go_wp2_with fail
      go_quiet (fail)
      go_wp2_with fail
      go_roundw
      case rel => exact ⟨k + 1, _, by go_num, by omega, rfl⟩
      case measure => simp [intOf]; omega
    · go_wp2
      go_ret
      exact ⟨rfl, _, rfl⟩
/-- The mark of element i of list k. -/
def mk5 (k : Nat) (i : Int) : Lg := ⟨-10 - (k : Int), i, 0, 0, 0⟩
set_option maxHeartbeats 1000000 in
set_option maxRecDepth 100000 in
theorem mark_any (k : Nat) (i : Int) (w : World) (hk : k ≤ 1000000) :
    Calls Tryd.prog 57 #[.int .i64 k, .int .i64 i] w fun e w' => e = .returned (.agg #[.int .i64 (-10 - (k : Int)), .int .i64 i, .int .i64 0, .int .i64 0, .int .i64 0]) ∧ Below w.heap.size w w' := by
  have hkI : (k : Int) ≤ 1000000 := by omega
  clear hk
  go_enter Tryd.func57, Tryd.ntmps57
  go_wp2
  have HN := Blk.new w 89 #[.int .i64 (-10 - (k : Int)), .int .i64 i, .int .i64 0, .int .i64 0, .int .i64 0]
  exact bodyPost_ret (results_cell_row rfl _ _ w.heap.size 89 #[.int .i64 (-10 - (k : Int)), .int .i64 i, .int .i64 0, .int .i64 0, .int .i64 0] (0, 0) _ rfl HN Tryd.underlying89 rfl (by kernel_rfl)) rfl ⟨rfl, (Below.refl _ _).alloc (Nat.le_refl _) _⟩
theorem mark_in (k i : Nat) (w : World) (hk : k ≤ 1000000) :
    Calls Tryd.prog 57 #[.int .i64 k, .int .i64 i] w fun e w' => e = .returned (.agg (mk5 k i).cells.toArray) ∧ Below w.heap.size w w' := mark_any k i w hk
theorem five_one (a b c d e : Int) : ∀ u ∈ [Value.int .i64 a, Value.int .i64 b, Value.int .i64 c, Value.int .i64 d, Value.int .i64 e], u.oneCell' = true := by simp [Value.oneCell']
def tcells (l : List Lg) : List Value := l.flatMap Lg.cells
theorem tcells_len (l : List Lg) : (tcells l).length = l.length * 5 := by
  unfold tcells
  induction l with
  | nil => rfl
  | cons a l ih => rw [List.flatMap_cons, List.length_append, ih, Lg.cells_len, List.length_cons]; omega
theorem tcells_one (l : List Lg) : ∀ u ∈ tcells l, u.oneCell' = true := by
  intro u hu
  unfold tcells at hu
  obtain ⟨p, _, h⟩ := List.mem_flatMap.1 hu
  simp [Lg.cells] at h
  rcases h with rfl | rfl | rfl | rfl | rfl <;> rfl
def marks (n : Nat) : List Lg := (List.range n).map fun (i : Nat) => mk5 90 i
theorem marks_succ (n : Nat) : marks (n + 1) = marks n ++ [mk5 90 n] := by simp [marks, List.range_succ]
theorem marks_length (n : Nat) : (marks n).length = n := by simp [marks]
/-- A row of one's own of pairs. -/
def OwnG (w : World) (base : Nat) (v : Value) (l : List Lg) : Prop := w.ownsRow base 89 5 v l.length (tcells l)
section
variable {P : Program} {w : World}
end
set_option maxHeartbeats 1000000 in
set_option maxRecDepth 100000 in
theorem full_any (A : Option Addr) (n c : Nat) (xs : List Lg) (w : World) (hn : n = xs.length) (hr : RdLg w (fun k => k < w.heap.size) A xs) (hl : n ≤ 4398046511104) :
    Calls Tryd.prog 54 #[.slice A n c] w fun e w' => ∃ v, e = .returned v ∧ OwnG w' w.heap.size v (xs ++ marks 16) ∧ Below w.heap.size w w' := by
  have HR := Held.mk hr
  have HN := Held.mk hn
  clear hr hn
  have hnI : (n : Int) ≤ 4398046511104 := by omega
  go_enter Tryd.func54, Tryd.ntmps54
  go_wp2_with fail
  go_loopw [3, 4] (fun v i wr => ∃ k : Nat, i = .int .i64 k ∧ k ≤ n ∧ Held (OwnG wr w.heap.size v (xs.take k)) ∧ Held (Below w.heap.size w wr)) (fun _ i _ => n - (intOf i).toNat)
  case atStart => exact ⟨0, rfl, Nat.zero_le _, ⟨own_nil _ _ _ _⟩, ⟨Below.refl _ _⟩⟩
  case round =>
    obtain ⟨k, rfl, hk, HO, HB⟩ := hrel
    by_cases hlt : k < n
    · have hkl : k < xs.length := by have := HN.out; omega
      obtain ⟨ad, rfl, hab, c0, c1, c2, c3, c4⟩ := (show RdLg wr (fun k => k < w.heap.size) A xs from RdV.keep HR.out (Keep.of_below HB.out (fun _ => False)) (fun _ _ h => h)).at_ hkl
      have HT : Held (xs.take (k + 1) = xs.take k ++ [⟨xs[k].a, xs[k].b, xs[k].c, xs[k].d, xs[k].e⟩]) := ⟨by rw [List.take_succ_eq_append_getElem hkl]⟩
      have hlk : (xs.take k).length ≤ k := List.length_take_le _ _
      generalize xs[k].a = xa at *
      generalize xs[k].b = xb at *
      generalize xs[k].c = xc at *
      generalize xs[k].d = xd at *
      generalize xs[k].e = xe at *
      obtain ⟨Ao, co, rfl, hco⟩ := own_slice_ HO.out
      generalize hys : xs.take k = ys at *
      clear hys
      have HL3 : Held ((ys.length + 1 + (ys.length + 1) / 4 + 192) * 40 ≤ 281474976710656) := ⟨by omega⟩
      have HRx : Held (RdV (wr.alloc (.cells #[.int .i64 xa, .int .i64 xb, .int .i64 xc, .int .i64 xd, .int .i64 xe] 89)) (fun _ => True) 5 (some ⟨wr.heap.size, 0, none⟩) 1 [.int .i64 xa, .int .i64 xb, .int .i64 xc, .int .i64 xd, .int .i64 xe]) := ⟨rfl, fun _ => ⟨_, rfl, trivial, World.news_of_block (cs := #[.int .i64 xa, .int .i64 xb, .int .i64 xc, .int .i64 xd, .int .i64 xe]) (t := 89) (fr := (0, 0)) (heap_alloc_new _ _)⟩⟩
      have HOx : Held ((wr.alloc (.cells #[.int .i64 xa, .int .i64 xb, .int .i64 xc, .int .i64 xd, .int .i64 xe] 89)).ownsRow w.heap.size 89 5 (.slice Ao ys.length co) ys.length (tcells ys)) := ⟨HO.out.alloc _⟩
      have HX : Held (w.heap.size ≤ (wr.alloc (.cells #[.int .i64 xa, .int .i64 xb, .int .i64 xc, .int .i64 xd, .int .i64 xe] 89)).heap.size) := ⟨by have := HB.out.size; simp; omega⟩
      go_wp2_with ((at_builtin; go_loud (refine appS _ w.heap.size rfl (.tmp 12) (.tmp 17) 43 89 (.agg #[.int .i64 0, .int .i64 0, .int .i64 0, .int .i64 0, .int .i64 0]) 5 40 rfl under_legs info_leg rfl (by decide) (by decide) (.slice Ao ys.length co) ys.length (tcells ys) rfl HOx.out (fun _ => True) (some ⟨wr.heap.size, 0, none⟩) 1 1 [.int .i64 xa, .int .i64 xb, .int .i64 xc, .int .i64 xd, .int .i64 xe] rfl HRx.out (five_one _ _ _ _ _) HL3.out HX.out ?_)); (intro v2 w3 ho3 hg3 hat3))
      have HBn : Held (Below w.heap.size w w3) := ⟨(((Keep.of_below HB.out (fun _ => False)).alloc _).grown hg3 (fun i hi e => by have := own_ge HO.out i e; omega)).to_below (fun _ _ h => h)⟩
      have HOn : Held (OwnG w3 w.heap.size v2 (xs.take (k + 1))) := ⟨by
        rw [HT.out]
        unfold OwnG tcells
        rw [List.length_append, List.flatMap_append]
        exact ho3⟩
      clear hg3 hat3 ho3 HO HB HOx HRx HX
      go_roundw
      case rel => exact ⟨k + 1, by go_num, by omega, HOn, HBn⟩
      case measure => simp [intOf]; omega
    · have ek : xs.take k = xs := List.take_of_length_le (by have := HN.out; omega)
      rw [ek] at HO
      clear ek
      generalize wr = wm at *
      go_wp2_with fail
      go_loopw [3, 5] (fun v i wr => ∃ k : Nat, i = .int .i64 k ∧ k ≤ 16 ∧ Held (OwnG wr w.heap.size v (xs ++ marks k)) ∧ Held (Below w.heap.size w wr)) (fun _ i _ => 16 - (intOf i).toNat)
      case atStart => exact ⟨0, rfl, by omega, ⟨by simpa [marks] using HO.out⟩, HB⟩
      case round =>
        obtain ⟨j, rfl, hj, HOj, HBj⟩ := hrel
        clear HO HB
        obtain ⟨Ao, co, rfl, hco⟩ := own_slice_ HOj.out
        have hlj : (xs ++ marks j).length = n + j := by rw [List.length_append, marks_length, HN.out]
        by_cases hlt2 : j < 16
        · have HT : Held (xs ++ marks (j + 1) = (xs ++ marks j) ++ [mk5 90 j]) := ⟨by rw [marks_succ, List.append_assoc]⟩
          have HMk := Held.mk (fun W => mark_any 90 (j : Int) W (by omega))
          generalize hys : xs ++ marks j = ys at *
          have hjI : (j : Int) < 16 := by omega
          clear hys
          have hlx : ys.length = n + j := hlj
          have HL3 : Held ((ys.length + 1 + (ys.length + 1) / 4 + 192) * 40 ≤ 281474976710656) := ⟨by omega⟩
          clear hlj hlx
          go_wp2_with fail
          refine (HMk.out _).mono ?_
          rintro e w2 ⟨rfl, hb2⟩
          have HB2 : Held (Below w.heap.size w w2) := ⟨HBj.out.trans (hb2.mono HBj.out.size)⟩
          have HRx : Held (RdV (w2.alloc (.cells #[.int .i64 (-100), .int .i64 (j : Int), .int .i64 0, .int .i64 0, .int .i64 0] 89)) (fun _ => True) 5 (some ⟨w2.heap.size, 0, none⟩) 1 [.int .i64 (-100), .int .i64 (j : Int), .int .i64 0, .int .i64 0, .int .i64 0]) := ⟨rfl, fun _ => ⟨_, rfl, trivial, World.news_of_block (cs := #[.int .i64 (-100), .int .i64 (j : Int), .int .i64 0, .int .i64 0, .int .i64 0]) (t := 89) (fr := (0, 0)) (heap_alloc_new _ _)⟩⟩
          have HOx : Held ((w2.alloc (.cells #[.int .i64 (-100), .int .i64 (j : Int), .int .i64 0, .int .i64 0, .int .i64 0] 89)).ownsRow w.heap.size 89 5 (.slice Ao ys.length co) ys.length (tcells ys)) := ⟨((Keep.of_below hb2 (fun _ => False)).own HOj.out (fun _ _ h => h)).alloc _⟩
          have HX : Held (w.heap.size ≤ (w2.alloc (.cells #[.int .i64 (-100), .int .i64 (j : Int), .int .i64 0, .int .i64 0, .int .i64 0] 89)).heap.size) := ⟨by have := HB2.out.size; simp; omega⟩
          clear hb2 HMk HBj
          go_wp2_with ((at_builtin; go_loud (refine appS _ w.heap.size rfl (.tmp 23) (.tmp 26) 43 89 (.agg #[.int .i64 0, .int .i64 0, .int .i64 0, .int .i64 0, .int .i64 0]) 5 40 rfl under_legs info_leg rfl (by decide) (by decide) (.slice Ao ys.length co) ys.length (tcells ys) rfl HOx.out (fun _ => True) (some ⟨w2.heap.size, 0, none⟩) 1 1 [.int .i64 (-100), .int .i64 (j : Int), .int .i64 0, .int .i64 0, .int .i64 0] rfl HRx.out (five_one _ _ _ _ _) HL3.out HX.out ?_)); (intro v2 w3 ho3 hg3 hat3))
          have HBn : Held (Below w.heap.size w w3) := ⟨(((Keep.of_below HB2.out (fun _ => False)).alloc _).grown hg3 (fun i hi e => by have := own_ge HOj.out i e; omega)).to_below (fun _ _ h => h)⟩
          have HOn : Held (OwnG w3 w.heap.size v2 (xs ++ marks (j + 1))) := ⟨by
            rw [HT.out]
            unfold OwnG tcells
            rw [List.length_append, List.flatMap_append]
            exact ho3⟩
          clear hg3 hat3 ho3 HOj HB2 HOx HRx HX
          go_roundw
          case rel => exact ⟨j + 1, by go_num, by omega, HOn, HBn⟩
          case measure => simp [intOf]; omega
        · obtain rfl : j = 16 := by omega
          go_wp2_with fail
          go_ret
          exact ⟨_, rfl, HOj.out, HBj.out⟩
set_option maxHeartbeats 4000000 in
set_option maxRecDepth 100000 in
theorem keptFull_any (ok : Nat → Prop) (A A' : Option Addr) (n c c' m : Nat) (xs : List Lg) (w : World) (hn : n = xs.length) (hm : m = n + 16) (hr : RdLg w ok A (xs ++ marks 16)) (hr' : RdLg w (fun k => k < w.heap.size) A' xs) (hl : n ≤ 4398046511104) :
    Calls Tryd.prog 58 #[.slice A m c, .slice A' n c'] w fun e w' => e = .returned (.bool true) ∧ Below w.heap.size w w' := by
  have HN := Held.mk hn
  have Hm := Held.mk hm
  have h0 : ((m : Int) != n + 16) = false := by simp; omega
  have Hr := Held.mk hr
  have Hr' := Held.mk hr'
  have hmI : m ≤ 4398046511120 := by omega
  clear hr hr' hn hm
  go_enter Tryd.func58, Tryd.ntmps58
  go_wp2_with fail
  go_loopw [5] (fun i wr => ∃ k : Nat, i = .int .i64 k ∧ k ≤ m ∧ Held (Below w.heap.size w wr)) (fun i _ => m - (intOf i).toNat)
  case atStart => exact ⟨0, rfl, Nat.zero_le _, ⟨Below.refl _ _⟩⟩
  case round =>
    obtain ⟨k, rfl, hk, HB⟩ := hrel
    by_cases hlt : k < m
    · have hkl : k < (xs ++ marks 16).length := by rw [List.length_append, marks_length]; have := HN.out; have := Hm.out; omega
      have Hrw : Held (∀ W, Keep (fun _ => False) wr W → RdLg W ok A (xs ++ marks 16)) := ⟨fun W hW => RdV.keep Hr.out ((Keep.of_below HB.out _).trans hW) (fun _ _ h => h)⟩
      have HMk := Held.mk (fun (i : Int) W => mark_any 90 i W (by omega))
      by_cases hkn : k < n
      · have hkx : k < xs.length := by have := HN.out; omega
        have HRx : Held (∀ W, Keep (fun _ => False) wr W → RdLg W (fun k => k < w.heap.size) A' xs) := ⟨fun W hW => RdV.keep Hr'.out ((Keep.of_below HB.out _).trans hW) (fun _ _ h => h)⟩
        have he : (xs ++ marks 16)[k] = xs[k] := List.getElem_append_left hkx
        go_wp2_with fail
        refine (HMk.out _ wr).mono ?_
        rintro e w2 ⟨rfl, hb2⟩
        have hk2 := Keep.of_below hb2 (fun _ => False)
        have HB2 : Held (Below w.heap.size w w2) := ⟨HB.out.trans (hb2.mono HB.out.size)⟩
        obtain ⟨ad, rfl, hoka, c0, c1, c2, c3, c4⟩ := (Hrw.out _ hk2).at_ hkl
        obtain ⟨ad', rfl, hokb, d0, d1, d2, d3, d4⟩ := (HRx.out _ hk2).at_ hkx
        rw [he] at c0 c1 c2 c3 c4
        generalize xs[k].a = xa at *
        generalize xs[k].b = xb at *
        generalize xs[k].c = xc at *
        generalize xs[k].d = xd at *
        generalize xs[k].e = xe at *
        have c0' := ((Keep.refl (fun _ => False) w2).alloc (.cells #[.int .i64 xa, .int .i64 xb, .int .i64 xc, .int .i64 xd, .int .i64 xe] 89)).cell c0 (fun h => h)
        have c1' := ((Keep.refl (fun _ => False) w2).alloc (.cells #[.int .i64 xa, .int .i64 xb, .int .i64 xc, .int .i64 xd, .int .i64 xe] 89)).cell c1 (fun h => h)
        have c2' := ((Keep.refl (fun _ => False) w2).alloc (.cells #[.int .i64 xa, .int .i64 xb, .int .i64 xc, .int .i64 xd, .int .i64 xe] 89)).cell c2 (fun h => h)
        have c3' := ((Keep.refl (fun _ => False) w2).alloc (.cells #[.int .i64 xa, .int .i64 xb, .int .i64 xc, .int .i64 xd, .int .i64 xe] 89)).cell c3 (fun h => h)
        have c4' := ((Keep.refl (fun _ => False) w2).alloc (.cells #[.int .i64 xa, .int .i64 xb, .int .i64 xc, .int .i64 xd, .int .i64 xe] 89)).cell c4 (fun h => h)
        have d0' := ((Keep.refl (fun _ => False) w2).alloc (.cells #[.int .i64 (-100), .int .i64 ((k : Int) - n), .int .i64 0, .int .i64 0, .int .i64 0] 89)).cell d0 (fun h => h)
        have d1' := ((Keep.refl (fun _ => False) w2).alloc (.cells #[.int .i64 (-100), .int .i64 ((k : Int) - n), .int .i64 0, .int .i64 0, .int .i64 0] 89)).cell d1 (fun h => h)
        have d2' := ((Keep.refl (fun _ => False) w2).alloc (.cells #[.int .i64 (-100), .int .i64 ((k : Int) - n), .int .i64 0, .int .i64 0, .int .i64 0] 89)).cell d2 (fun h => h)
        have d3' := ((Keep.refl (fun _ => False) w2).alloc (.cells #[.int .i64 (-100), .int .i64 ((k : Int) - n), .int .i64 0, .int .i64 0, .int .i64 0] 89)).cell d3 (fun h => h)
        have d4' := ((Keep.refl (fun _ => False) w2).alloc (.cells #[.int .i64 (-100), .int .i64 ((k : Int) - n), .int .i64 0, .int .i64 0, .int .i64 0] 89)).cell d4 (fun h => h)
        have HBn : Held (∀ q, Below w.heap.size w ((w2.alloc (.cells #[.int .i64 xa, .int .i64 xb, .int .i64 xc, .int .i64 xd, .int .i64 xe] 89)).drewN q)) := ⟨fun q => below_drewN_ (HB2.out.alloc HB2.out.size _) q⟩
        clear hb2 hk2 c0 c1 c2 c3 c4 d0 d1 d2 d3 d4 he
        go_wp2_with fail
        go_quiet (fail)
        go_wp2_with fail
        go_roundw
        case rel => exact ⟨k + 1, by go_num, by omega, ⟨HBn.out _⟩⟩
        case measure => simp [intOf]; omega
      · have he : (xs ++ marks 16)[k] = mk5 90 ((k : Int) - n) := by
          have hx := HN.out
          rw [List.getElem_append_right (by omega)]
          have : k - xs.length < 16 := by have := Hm.out; omega
          simp only [marks, List.getElem_map, List.getElem_range]
          congr 1
          omega
        go_wp2_with fail
        refine (HMk.out _ wr).mono ?_
        rintro e w2 ⟨rfl, hb2⟩
        have hk2 := Keep.of_below hb2 (fun _ => False)
        have HB2 : Held (Below w.heap.size w w2) := ⟨HB.out.trans (hb2.mono HB.out.size)⟩
        obtain ⟨ad, rfl, hoka, c0, c1, c2, c3, c4⟩ := (Hrw.out _ hk2).at_ hkl
        rw [he] at c0 c1 c2 c3 c4
        have c0' := ((Keep.refl (fun _ => False) w2).alloc (.cells #[.int .i64 (-100), .int .i64 ((k : Int) - n), .int .i64 0, .int .i64 0, .int .i64 0] 89)).cell c0 (fun h => h)
        have c1' := ((Keep.refl (fun _ => False) w2).alloc (.cells #[.int .i64 (-100), .int .i64 ((k : Int) - n), .int .i64 0, .int .i64 0, .int .i64 0] 89)).cell c1 (fun h => h)
        have c2' := ((Keep.refl (fun _ => False) w2).alloc (.cells #[.int .i64 (-100), .int .i64 ((k : Int) - n), .int .i64 0, .int .i64 0, .int .i64 0] 89)).cell c2 (fun h => h)
        have c3' := ((Keep.refl (fun _ => False) w2).alloc (.cells #[.int .i64 (-100), .int .i64 ((k : Int) - n), .int .i64 0, .int .i64 0, .int .i64 0] 89)).cell c3 (fun h => h)
        have c4' := ((Keep.refl (fun _ => False) w2).alloc (.cells #[.int .i64 (-100), .int .i64 ((k : Int) - n), .int .i64 0, .int .i64 0, .int .i64 0] 89)).cell c4 (fun h => h)
        have HBn : Held (∀ q, Below w.heap.size w ((w2.alloc (.cells #[.int .i64 (-100), .int .i64 ((k : Int) - n), .int .i64 0, .int .i64 0, .int .i64 0] 89)).drewN q)) := ⟨fun q => below_drewN_ (HB2.out.alloc HB2.out.size _) q⟩
        rw [show (mk5 90 ((k : Int) - n)).a = -100 from rfl] at c0'
        rw [show (mk5 90 ((k : Int) - n)).b = (k : Int) - n from rfl] at c1'
        rw [show (mk5 90 ((k : Int) - n)).c = 0 from rfl] at c2'
        rw [show (mk5 90 ((k : Int) - n)).d = 0 from rfl] at c3'
        rw [show (mk5 90 ((k : Int) - n)).e = 0 from rfl] at c4'
        clear hb2 hk2 c0 c1 c2 c3 c4 he
        go_wp2_with fail
        go_quiet (fail)
        go_wp2_with fail
        go_roundw
        case rel => exact ⟨k + 1, by go_num, by omega, ⟨HBn.out _⟩⟩
        case measure => simp [intOf]; omega
    · go_wp2_with fail
      go_ret
      exact ⟨rfl, HB.out⟩
/-- A list of pairs that is lent. -/
structure Lent (w : World) (base g n c : Nat) (xs : List Lg) : Prop where
  own : OwnG w base (.slice (some ⟨g, 0, none⟩) (n + 16) c) (xs ++ marks 16)
  len : xs.length = n
  ge : base ≤ g
section
variable {w w' : World} {base g n c : Nat} {xs : List Lg}
theorem Lent.cap (h : Lent w base g n c xs) : n + 16 ≤ c := by
  obtain ⟨_, h2 | ⟨g', cap, cur, e, _, _, hc, _⟩⟩ := h.own
  · cases h2.1
  · have := h.len
    injection e with _ e1 e2
    omega
theorem Lent.full (h : Lent w base g n c xs) : RdLg w (fun k => k = g) (some ⟨g, 0, none⟩) (xs ++ marks 16) := by
  obtain ⟨A, c', e, _, hr⟩ := RdV.of_own h.own
  injection e with e1 e2 e3
  subst e1
  exact hr.mono (fun k hk => by simpa [Value.ownBlock] using hk.symm)
theorem Lent.rd (h : Lent w base g n c xs) : RdLg w (fun k => k = g) (some ⟨g, 0, none⟩) xs := by
  have h2 := RdV.front h.full (k := xs.length) (by simp)
  rw [List.flatMap_append, List.take_append_of_le_length (by rw [show (xs.flatMap Lg.cells).length = xs.length * 5 from tcells_len xs]; exact Nat.le_refl _), List.take_of_length_le (by rw [show (xs.flatMap Lg.cells).length = xs.length * 5 from tcells_len xs]; exact Nat.le_refl _)] at h2
  exact h2
theorem Lent.keep {S : Nat → Prop} (h : Lent w base g n c xs) (hk : Keep S w w') (hs : ¬ S g) : Lent w' base g n c xs :=
  ⟨hk.own h.own (fun k hk' e => by simp [Value.ownBlock] at hk'; exact hs (hk' ▸ e)), h.len, h.ge⟩
end
set_option maxHeartbeats 1000000 in
set_option maxRecDepth 100000 in
theorem lent_any (A : Option Addr) (n c : Nat) (xs : List Lg) (w : World) (hn : n = xs.length) (hr : RdLg w (fun k => k < w.heap.size) A xs) (hl : n ≤ 4398046511104) :
    Calls Tryd.prog 21 #[.slice A n c] w fun e w' => ∃ g c', e = .returned (.slice (some ⟨g, 0, none⟩) n c') ∧ Lent w' w.heap.size g n c' xs ∧ Below w.heap.size w w' := by
  have HN := Held.mk hn
  have Hr := Held.mk hr
  clear hr hn
  go_enter Tryd.func21, Tryd.ntmps21
  go_wp2_with fail
  refine (full_any A n c xs w HN.out Hr.out hl).mono ?_
  rintro e w1 ⟨v, rfl, ho, hb⟩
  have hl1 : (xs ++ marks 16).length = n + 16 := by rw [List.length_append, marks_length, HN.out]
  obtain ⟨g, cap, rfl, hg, _⟩ := World.ownsRow.form (h := ho) (by rw [hl1]; omega)
  have hcap : n + 16 ≤ cap := by
    obtain ⟨_, h2 | ⟨g', cap', cur, e, _, _, hc, _⟩⟩ := ho
    · cases h2.1
    · injection e with _ e1 e2; omega
  rw [hl1] at ho ⊢
  have Ho := Held.mk ho
  have HB := Held.mk hb
  clear ho hl1 hb
  go_wp2
  go_ret
  exact ⟨g, cap, rfl, ⟨Ho.out, HN.out.symm, hg⟩, HB.out⟩
set_option maxHeartbeats 1000000 in
set_option maxRecDepth 100000 in
theorem kept_any (A' : Option Addr) (base g n c c' : Nat) (xs : List Lg) (w : World) (hL : Lent w base g n c xs) (hr' : RdLg w (fun k => k < w.heap.size) A' xs) (hl : n ≤ 4398046511104) :
    Calls Tryd.prog 26 #[.slice (some ⟨g, 0, none⟩) n c, .slice A' n c'] w fun e w' => e = .returned (.bool true) ∧ Below w.heap.size w w' := by
  have hcap := hL.cap
  have HL := Held.mk hL
  have Hr' := Held.mk hr'
  clear hL hr'
  have h0 : ((n : Int) != n) = false := by simp
  go_enter Tryd.func26, Tryd.ntmps26
  go_wp2_with fail
  refine (keptFull_any _ _ A' n c c' (n + 16) xs w HL.out.len.symm rfl HL.out.full Hr'.out hl).mono ?_
  rintro e w' ⟨rfl, hb⟩
  have HB := Held.mk hb
  clear hb
  go_wp2
  go_ret
  exact ⟨rfl, HB.out⟩
end Klg
end Go.Proofs.YtgmanmbicoofgaaDoor
