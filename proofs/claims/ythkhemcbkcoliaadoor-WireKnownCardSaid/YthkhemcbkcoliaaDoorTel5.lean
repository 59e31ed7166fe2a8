/- One call of the document's reader, and what it answers: walked. -/
import Derived.Test.YthkhemcbkcoliaaDoorAsk5
import Derived.Test.YthkhemcbkcoliaaDoorRri
import Derived.Test.YthkhemcbkcoliaaDoorRrl
import Derived.Test.YthkhemcbkcoliaaDoorRrt
namespace Go.Proofs.YthkhemcbkcoliaaDoor
set_option linter.unusedVariables false
set_option linter.unusedSimpArgs false
namespace Wire
open Go.RowKit Mem Apn Err Aps
set_option maxHeartbeats 4000000 in
set_option maxRecDepth 100000 in
theorem tell_0 (ok : Nat → Prop) (W : Nat) (A : Option Addr) (n c : Nat) (b : List Int) (p : Nat) (s : RS) (y0 y1 y2 : Value) (on kd : Int) (x : Nat) (N : Int) (w : World) (hB : Blk w W 41 #[.slice A n c, .int .i64 p, .int .i64 s.er.code, y0, y1, y2]) (h : One w ok A n c b p s) (hW : ¬ ok W) (hok : ∀ k, ok k → k < w.heap.size) (hN : I64 N) :
    Calls Tryd.prog 20 #[.pointer (some ⟨W, 0, none⟩), .agg #[.int .i64 on, .int .i64 kd, .int .u64 x, .int .i64 N]] w fun e w' => e = .returned (saysV s kd x N) ∧ (∃ p', Blk w' W 41 #[.slice A n c, .int .i64 (p' : Nat), .int .i64 (saysS s kd x N).er.code, y0, y1, y2] ∧ One w' ok A n c b p' (saysS s kd x N)) ∧ Keep (fun k => k = W) w w' := by
  have hBlt := hB.lt
  have HBw := Held.mk hB
  have HOw := Held.mk h
  have HK0 : Held (Keep (fun _ => False) w ((w.alloc (.cells #[.int .i64 on, .int .i64 kd, .int .u64 x, .int .i64 N] 44)).alloc (.cells #[.int .u64 0, .string ⟨#[]⟩, .int .i64 0] 46))) := ⟨((Keep.refl _ _).alloc _).alloc _⟩
  have HB0 := Held.mk (hB.keep HK0.out (fun h => h))
  have HO0 := Held.mk (h.keep HK0.out (fun _ _ h => h))
  have HZ0 : Held (Blk ((w.alloc (.cells #[.int .i64 on, .int .i64 kd, .int .u64 x, .int .i64 N] 44)).alloc (.cells #[.int .u64 0, .string ⟨#[]⟩, .int .i64 0] 46)) (w.heap.size + 1) 46 #[.int .u64 0, .string ⟨#[]⟩, .int .i64 0]) := ⟨by
    have := Blk.new (w.alloc (.cells #[.int .i64 on, .int .i64 kd, .int .u64 x, .int .i64 N] 44)) 46 #[.int .u64 0, .string ⟨#[]⟩, .int .i64 0]
    rw [World.size_alloc] at this
    exact this⟩
  have HBn : Held (W ≠ w.heap.size ∧ W ≠ w.heap.size + 1) := ⟨⟨by omega, by omega⟩⟩
  have HOk : Held (∀ k, ok k → k ≠ w.heap.size + 1) := ⟨fun k hk => by have := hok k hk; omega⟩
  have HSz : Held (w.heap.size < w.heap.size + 1) := ⟨by omega⟩
  have HN := Held.mk hN
  have HW := Held.mk hW
  clear hB h hok hN hBlt hW
  by_cases h0 : kd = 0
  · subst h0
    have HV : Held (saysV s 0 x N = gotV (uintM s x).1 ⟨#[]⟩ 0) := ⟨by unfold saysV; simp⟩
    have HS : Held (saysS s 0 x N = (uintM s x).2) := ⟨by unfold saysS; simp⟩
    go_enter Tryd.func20, Tryd.ntmps20
    go_wp2_with fail
    generalize (w.alloc (.cells #[.int .i64 on, .int .i64 0, .int .u64 x, .int .i64 N] 44)).alloc (.cells #[.int .u64 0, .string ⟨#[]⟩, .int .i64 0] 46) = w0 at *
    refine (ruintR_0 ok W A n c b p s x y0 y1 y2 _ HB0.out HO0.out HW.out).mono ?_
    rintro e w1 ⟨rfl, ⟨p2, hb1, ho1⟩, hk1⟩
    have H1 := Held.mk hb1
    have HOn := Held.mk ho1
    have HK1 := Held.mk hk1
    have HZ1 := Held.mk (HZ0.out.keep hk1 (fun e => HBn.out.2 e.symm))
    clear hb1 ho1 hk1 HZ0
    have z0 := HZ1.out.cell 0
    have z1 := HZ1.out.cell 1
    have z2 := HZ1.out.cell 2
    have f0 := HZ1.out.frozen 0
    have f1 := HZ1.out.frozen 1
    have f2 := HZ1.out.frozen 2
    simp at z0 z1 z2
    go_wp2_with fail
    have HZf : Blk (((w1.setCell ⟨w.heap.size + 1, 0, none⟩ (.int .u64 (uintM s x).1)).setCell ⟨w.heap.size + 1, 1, none⟩ (.string ⟨#[]⟩)).setCell ⟨w.heap.size + 1, 2, none⟩ (.int .i64 0)) (w.heap.size + 1) 46 #[.int .u64 (uintM s x).1, .string ⟨#[]⟩, .int .i64 0] := by
      have := ((HZ1.out.set_ 0 (.int .u64 (uintM s x).1)).set_ 1 (.string ⟨#[]⟩)).set_ 2 (.int .i64 0)
      simpa using this
    have hkR : Keep (fun k => k = w.heap.size + 1) w1 (((w1.setCell ⟨w.heap.size + 1, 0, none⟩ (.int .u64 (uintM s x).1)).setCell ⟨w.heap.size + 1, 1, none⟩ (.string ⟨#[]⟩)).setCell ⟨w.heap.size + 1, 2, none⟩ (.int .i64 0)) := (((Keep.refl (fun k => k = w.heap.size + 1) w1).setCell (p := ⟨w.heap.size + 1, 0, none⟩) (fun _ => rfl) _).setCell (p := ⟨w.heap.size + 1, 1, none⟩) (fun _ => rfl) _).setCell (p := ⟨w.heap.size + 1, 2, none⟩) (fun _ => rfl) _
    refine bodyPost_ret (results_cell_row rfl _ _ (w.heap.size + 1) 46 #[.int .u64 (uintM s x).1, .string ⟨#[]⟩, .int .i64 0] (0, 0) _ rfl HZf Tryd.underlying46 rfl (by kernel_rfl)) rfl ?_
    refine ⟨by rw [HV.out]; rfl, ⟨p2, by rw [HS.out]; exact H1.out.keep hkR (fun e => HBn.out.2 e), by rw [HS.out]; exact HOn.out.keep hkR (fun k hk e => HOk.out k hk e)⟩, ?_⟩
    exact ((HK0.out.mono (fun _ _ h => h.elim)).then HK1.out (fun _ _ h => h)).then hkR (fun i hi h => by have := HSz.out; omega)
  by_cases h1 : kd = 1
  · subst h1
    have HV : Held (saysV s 1 x N = gotV (IntKind.u64.wrap (intM s).1) ⟨#[]⟩ 0) := ⟨by unfold saysV; simp⟩
    have HS : Held (saysS s 1 x N = (intM s).2) := ⟨by unfold saysS; simp⟩
    go_enter Tryd.func20, Tryd.ntmps20
    go_wp2_with fail
    generalize (w.alloc (.cells #[.int .i64 on, .int .i64 1, .int .u64 x, .int .i64 N] 44)).alloc (.cells #[.int .u64 0, .string ⟨#[]⟩, .int .i64 0] 46) = w0 at *
    refine (rintR_0 ok W A n c b p s y0 y1 y2 _ HB0.out HO0.out HW.out).mono ?_
    rintro e w1 ⟨rfl, ⟨p2, hb1, ho1⟩, hk1⟩
    have H1 := Held.mk hb1
    have HOn := Held.mk ho1
    have HK1 := Held.mk hk1
    have HZ1 := Held.mk (HZ0.out.keep hk1 (fun e => HBn.out.2 e.symm))
    clear hb1 ho1 hk1 HZ0
    have z0 := HZ1.out.cell 0
    have z1 := HZ1.out.cell 1
    have z2 := HZ1.out.cell 2
    have f0 := HZ1.out.frozen 0
    have f1 := HZ1.out.frozen 1
    have f2 := HZ1.out.frozen 2
    simp at z0 z1 z2
    go_wp2_with fail
    have HZf : Blk (((w1.setCell ⟨w.heap.size + 1, 0, none⟩ (.int .u64 (IntKind.u64.wrap (intM s).1))).setCell ⟨w.heap.size + 1, 1, none⟩ (.string ⟨#[]⟩)).setCell ⟨w.heap.size + 1, 2, none⟩ (.int .i64 0)) (w.heap.size + 1) 46 #[.int .u64 (IntKind.u64.wrap (intM s).1), .string ⟨#[]⟩, .int .i64 0] := by
      have := ((HZ1.out.set_ 0 (.int .u64 (IntKind.u64.wrap (intM s).1))).set_ 1 (.string ⟨#[]⟩)).set_ 2 (.int .i64 0)
      simpa using this
    have hkR : Keep (fun k => k = w.heap.size + 1) w1 (((w1.setCell ⟨w.heap.size + 1, 0, none⟩ (.int .u64 (IntKind.u64.wrap (intM s).1))).setCell ⟨w.heap.size + 1, 1, none⟩ (.string ⟨#[]⟩)).setCell ⟨w.heap.size + 1, 2, none⟩ (.int .i64 0)) := (((Keep.refl (fun k => k = w.heap.size + 1) w1).setCell (p := ⟨w.heap.size + 1, 0, none⟩) (fun _ => rfl) _).setCell (p := ⟨w.heap.size + 1, 1, none⟩) (fun _ => rfl) _).setCell (p := ⟨w.heap.size + 1, 2, none⟩) (fun _ => rfl) _
    refine bodyPost_ret (results_cell_row rfl _ _ (w.heap.size + 1) 46 #[.int .u64 (IntKind.u64.wrap (intM s).1), .string ⟨#[]⟩, .int .i64 0] (0, 0) _ rfl HZf Tryd.underlying46 rfl (by kernel_rfl)) rfl ?_
    refine ⟨by rw [HV.out]; rfl, ⟨p2, by rw [HS.out]; exact H1.out.keep hkR (fun e => HBn.out.2 e), by rw [HS.out]; exact HOn.out.keep hkR (fun k hk e => HOk.out k hk e)⟩, ?_⟩
    exact ((HK0.out.mono (fun _ _ h => h.elim)).then HK1.out (fun _ _ h => h)).then hkR (fun i hi h => by have := HSz.out; omega)
  by_cases h2 : kd = 2
  · subst h2
    have HV : Held (saysV s 2 x N = gotV 0 (strOfNums (textM s N).1) 0) := ⟨by unfold saysV; simp⟩
    have HS : Held (saysS s 2 x N = (textM s N).2) := ⟨by unfold saysS; simp⟩
    go_enter Tryd.func20, Tryd.ntmps20
    go_wp2_with fail
    generalize (w.alloc (.cells #[.int .i64 on, .int .i64 2, .int .u64 x, .int .i64 N] 44)).alloc (.cells #[.int .u64 0, .string ⟨#[]⟩, .int .i64 0] 46) = w0 at *
    refine (rtextR_0 ok W A n c b p s N HN.out y0 y1 y2 _ HB0.out HO0.out HW.out).mono ?_
    rintro e w1 ⟨rfl, ⟨p2, hb1, ho1⟩, hk1⟩
    have H1 := Held.mk hb1
    have HOn := Held.mk ho1
    have HK1 := Held.mk hk1
    have HZ1 := Held.mk (HZ0.out.keep hk1 (fun e => HBn.out.2 e.symm))
    clear hb1 ho1 hk1 HZ0
    have z0 := HZ1.out.cell 0
    have z1 := HZ1.out.cell 1
    have z2 := HZ1.out.cell 2
    have f0 := HZ1.out.frozen 0
    have f1 := HZ1.out.frozen 1
    have f2 := HZ1.out.frozen 2
    simp at z0 z1 z2
    go_wp2_with fail
    have HZf : Blk (((w1.setCell ⟨w.heap.size + 1, 0, none⟩ (.int .u64 0)).setCell ⟨w.heap.size + 1, 1, none⟩ (.string (strOfNums (textM s N).1))).setCell ⟨w.heap.size + 1, 2, none⟩ (.int .i64 0)) (w.heap.size + 1) 46 #[.int .u64 0, .string (strOfNums (textM s N).1), .int .i64 0] := by
      have := ((HZ1.out.set_ 0 (.int .u64 0)).set_ 1 (.string (strOfNums (textM s N).1))).set_ 2 (.int .i64 0)
      simpa using this
    have hkR : Keep (fun k => k = w.heap.size + 1) w1 (((w1.setCell ⟨w.heap.size + 1, 0, none⟩ (.int .u64 0)).setCell ⟨w.heap.size + 1, 1, none⟩ (.string (strOfNums (textM s N).1))).setCell ⟨w.heap.size + 1, 2, none⟩ (.int .i64 0)) := (((Keep.refl (fun k => k = w.heap.size + 1) w1).setCell (p := ⟨w.heap.size + 1, 0, none⟩) (fun _ => rfl) _).setCell (p := ⟨w.heap.size + 1, 1, none⟩) (fun _ => rfl) _).setCell (p := ⟨w.heap.size + 1, 2, none⟩) (fun _ => rfl) _
    refine bodyPost_ret (results_cell_row rfl _ _ (w.heap.size + 1) 46 #[.int .u64 0, .string (strOfNums (textM s N).1), .int .i64 0] (0, 0) _ rfl HZf Tryd.underlying46 rfl (by kernel_rfl)) rfl ?_
    refine ⟨by rw [HV.out]; rfl, ⟨p2, by rw [HS.out]; exact H1.out.keep hkR (fun e => HBn.out.2 e), by rw [HS.out]; exact HOn.out.keep hkR (fun k hk e => HOk.out k hk e)⟩, ?_⟩
    exact ((HK0.out.mono (fun _ _ h => h.elim)).then HK1.out (fun _ _ h => h)).then hkR (fun i hi h => by have := HSz.out; omega)
  by_cases h3 : kd = 3
  · subst h3
    have HV : Held (saysV s 3 x N = gotV s.xs.length ⟨#[]⟩ 0) := ⟨by unfold saysV; simp⟩
    have HS : Held (saysS s 3 x N = s) := ⟨by unfold saysS; simp⟩
    have hlw : IntKind.u64.wrap (s.xs.length : Int) = (s.xs.length : Int) := by
      have h1 := HO0.out.xs
      have h2 := HO0.out.len
      have h3 := HO0.out.rd.len
      have h4 : s.xs.length ≤ n := by rw [h1, List.length_drop]; omega
      rw [IntKind.wrap_u64]
      omega
    go_enter Tryd.func20, Tryd.ntmps20
    go_wp2_with fail
    generalize (w.alloc (.cells #[.int .i64 on, .int .i64 3, .int .u64 x, .int .i64 N] 44)).alloc (.cells #[.int .u64 0, .string ⟨#[]⟩, .int .i64 0] 46) = w0 at *
    refine (rleftR_0 ok W A n c b p s y0 y1 y2 _ HB0.out HO0.out).mono ?_
    rintro e w1 ⟨rfl, m1, rfl⟩
    have H1 := Held.mk (HB0.out.drewN m1)
    have HK1 : Held (Keep (fun k => k = W) w0 (w0.drewN m1)) := ⟨(Keep.refl _ _).drewN m1⟩
    have HOn := Held.mk (HO0.out.keep ((Keep.refl (fun _ => False) w0).drewN m1) (fun _ _ h => h))
    have HZ1 := Held.mk (HZ0.out.drewN m1)
    obtain ⟨p2, hp2⟩ : ∃ p2, p2 = p := ⟨_, rfl⟩
    rw [← hp2] at H1 HOn
    clear hp2 HZ0 HB0 HO0
    generalize w0.drewN m1 = w1 at *
    have z0 := HZ1.out.cell 0
    have z1 := HZ1.out.cell 1
    have z2 := HZ1.out.cell 2
    have f0 := HZ1.out.frozen 0
    have f1 := HZ1.out.frozen 1
    have f2 := HZ1.out.frozen 2
    simp at z0 z1 z2
    go_wp2_with fail
    have HZf : Blk (((w1.setCell ⟨w.heap.size + 1, 0, none⟩ (.int .u64 s.xs.length)).setCell ⟨w.heap.size + 1, 1, none⟩ (.string ⟨#[]⟩)).setCell ⟨w.heap.size + 1, 2, none⟩ (.int .i64 0)) (w.heap.size + 1) 46 #[.int .u64 s.xs.length, .string ⟨#[]⟩, .int .i64 0] := by
      have := ((HZ1.out.set_ 0 (.int .u64 s.xs.length)).set_ 1 (.string ⟨#[]⟩)).set_ 2 (.int .i64 0)
      simpa using this
    have hkR : Keep (fun k => k = w.heap.size + 1) w1 (((w1.setCell ⟨w.heap.size + 1, 0, none⟩ (.int .u64 s.xs.length)).setCell ⟨w.heap.size + 1, 1, none⟩ (.string ⟨#[]⟩)).setCell ⟨w.heap.size + 1, 2, none⟩ (.int .i64 0)) := (((Keep.refl (fun k => k = w.heap.size + 1) w1).setCell (p := ⟨w.heap.size + 1, 0, none⟩) (fun _ => rfl) _).setCell (p := ⟨w.heap.size + 1, 1, none⟩) (fun _ => rfl) _).setCell (p := ⟨w.heap.size + 1, 2, none⟩) (fun _ => rfl) _
    refine bodyPost_ret (results_cell_row rfl _ _ (w.heap.size + 1) 46 #[.int .u64 s.xs.length, .string ⟨#[]⟩, .int .i64 0] (0, 0) _ rfl HZf Tryd.underlying46 rfl (by kernel_rfl)) rfl ?_
    refine ⟨by rw [HV.out]; rfl, ⟨p2, by rw [HS.out]; exact H1.out.keep hkR (fun e => HBn.out.2 e), by rw [HS.out]; exact HOn.out.keep hkR (fun k hk e => HOk.out k hk e)⟩, ?_⟩
    exact ((HK0.out.mono (fun _ _ h => h.elim)).then HK1.out (fun _ _ h => h)).then hkR (fun i hi h => by have := HSz.out; omega)
  by_cases h4 : kd = 4
  · subst h4
    have HV : Held (saysV s 4 x N = gotV 0 ⟨#[]⟩ s.er.code) := ⟨by unfold saysV; simp⟩
    have HS : Held (saysS s 4 x N = s) := ⟨by unfold saysS; simp⟩
    have k2 := HB0.out.cell 2
    simp at k2
    go_enter Tryd.func20, Tryd.ntmps20
    have HKf : Held (Keep (fun _ => False) w ((w.alloc (.cells #[.int .i64 on, .int .i64 4, .int .u64 x, .int .i64 N] 44)).alloc (.cells #[.int .u64 0, .string ⟨#[]⟩, .int .i64 s.er.code] 46))) := ⟨((Keep.refl _ _).alloc _).alloc _⟩
    have HZf : Held (Blk ((w.alloc (.cells #[.int .i64 on, .int .i64 4, .int .u64 x, .int .i64 N] 44)).alloc (.cells #[.int .u64 0, .string ⟨#[]⟩, .int .i64 s.er.code] 46)) (w.heap.size + 1) 46 #[.int .u64 0, .string ⟨#[]⟩, .int .i64 s.er.code]) := ⟨by
      have := Blk.new (w.alloc (.cells #[.int .i64 on, .int .i64 4, .int .u64 x, .int .i64 N] 44)) 46 #[.int .u64 0, .string ⟨#[]⟩, .int .i64 s.er.code]
      rw [World.size_alloc] at this
      exact this⟩
    have z0 := HZ0.out.cell 0
    have z1 := HZ0.out.cell 1
    have z2 := HZ0.out.cell 2
    have f0 := HZ0.out.frozen 0
    have f1 := HZ0.out.frozen 1
    have f2 := HZ0.out.frozen 2
    simp at z0 z1 z2
    clear HZ0 HB0 HO0 HK0
    go_wp2_with fail
    refine bodyPost_ret (results_cell_row rfl _ _ (w.heap.size + 1) 46 #[.int .u64 0, .string ⟨#[]⟩, .int .i64 s.er.code] (0, 0) _ rfl HZf.out Tryd.underlying46 rfl (by kernel_rfl)) rfl ?_
    exact ⟨by rw [HV.out]; rfl, ⟨p, by rw [HS.out]; exact HBw.out.keep HKf.out (fun h => h), by rw [HS.out]; exact HOw.out.keep HKf.out (fun _ _ h => h)⟩, HKf.out.mono (fun _ _ h => h.elim)⟩
  have d0 : (kd == 0) = false := beq_eq_false_iff_ne.2 h0
  have d1 : (kd == 1) = false := beq_eq_false_iff_ne.2 h1
  have d2 : (kd == 2) = false := beq_eq_false_iff_ne.2 h2
  have d3 : (kd == 3) = false := beq_eq_false_iff_ne.2 h3
  have d4 : (kd == 4) = false := beq_eq_false_iff_ne.2 h4
  have HV : Held (saysV s kd x N = gotV 0 ⟨#[]⟩ (endM s).code) := ⟨by unfold saysV; simp [h0, h1, h2, h3, h4]⟩
  have HS : Held (saysS s kd x N = s) := ⟨by unfold saysS; simp [h0, h1, h2]⟩
  go_enter Tryd.func20, Tryd.ntmps20
  go_wp2_with fail
  generalize (w.alloc (.cells #[.int .i64 on, .int .i64 kd, .int .u64 x, .int .i64 N] 44)).alloc (.cells #[.int .u64 0, .string ⟨#[]⟩, .int .i64 0] 46) = w0 at *
  refine (rendR_0 ok W A n c b p s y0 y1 y2 _ HB0.out HO0.out).mono ?_
  rintro e w1 ⟨rfl, m1, rfl⟩
  have H1 := Held.mk (HB0.out.drewN m1)
  have HK1 : Held (Keep (fun k => k = W) w0 (w0.drewN m1)) := ⟨(Keep.refl _ _).drewN m1⟩
  have HOn := Held.mk (HO0.out.keep ((Keep.refl (fun _ => False) w0).drewN m1) (fun _ _ h => h))
  have HZ1 := Held.mk (HZ0.out.drewN m1)
  obtain ⟨p2, hp2⟩ : ∃ p2, p2 = p := ⟨_, rfl⟩
  rw [← hp2] at H1 HOn
  clear hp2 HZ0 HB0 HO0
  generalize w0.drewN m1 = w1 at *
  have z0 := HZ1.out.cell 0
  have z1 := HZ1.out.cell 1
  have z2 := HZ1.out.cell 2
  have f0 := HZ1.out.frozen 0
  have f1 := HZ1.out.frozen 1
  have f2 := HZ1.out.frozen 2
  simp at z0 z1 z2
  go_wp2_with fail
  have HZf : Blk (((w1.setCell ⟨w.heap.size + 1, 0, none⟩ (.int .u64 0)).setCell ⟨w.heap.size + 1, 1, none⟩ (.string ⟨#[]⟩)).setCell ⟨w.heap.size + 1, 2, none⟩ (.int .i64 (endM s).code)) (w.heap.size + 1) 46 #[.int .u64 0, .string ⟨#[]⟩, .int .i64 (endM s).code] := by
    have := ((HZ1.out.set_ 0 (.int .u64 0)).set_ 1 (.string ⟨#[]⟩)).set_ 2 (.int .i64 (endM s).code)
    simpa using this
  have hkR : Keep (fun k => k = w.heap.size + 1) w1 (((w1.setCell ⟨w.heap.size + 1, 0, none⟩ (.int .u64 0)).setCell ⟨w.heap.size + 1, 1, none⟩ (.string ⟨#[]⟩)).setCell ⟨w.heap.size + 1, 2, none⟩ (.int .i64 (endM s).code)) := (((Keep.refl (fun k => k = w.heap.size + 1) w1).setCell (p := ⟨w.heap.size + 1, 0, none⟩) (fun _ => rfl) _).setCell (p := ⟨w.heap.size + 1, 1, none⟩) (fun _ => rfl) _).setCell (p := ⟨w.heap.size + 1, 2, none⟩) (fun _ => rfl) _
  refine bodyPost_ret (results_cell_row rfl _ _ (w.heap.size + 1) 46 #[.int .u64 0, .string ⟨#[]⟩, .int .i64 (endM s).code] (0, 0) _ rfl HZf Tryd.underlying46 rfl (by kernel_rfl)) rfl ?_
  refine ⟨by rw [HV.out]; rfl, ⟨p2, by rw [HS.out]; exact H1.out.keep hkR (fun e => HBn.out.2 e), by rw [HS.out]; exact HOn.out.keep hkR (fun k hk e => HOk.out k hk e)⟩, ?_⟩
  exact ((HK0.out.mono (fun _ _ h => h.elim)).then HK1.out (fun _ _ h => h)).then hkR (fun i hi h => by have := HSz.out; omega)
set_option maxHeartbeats 4000000 in
set_option maxRecDepth 100000 in
theorem tell_3 (ok : Nat → Prop) (W : Nat) (A : Option Addr) (n c : Nat) (b : List Int) (p : Nat) (s : RS) (y0 y1 y2 : Value) (on kd : Int) (x : Nat) (N : Int) (w : World) (hB : Blk w W 41 #[y0, y1, y2, .slice A n c, .int .i64 p, .int .i64 s.er.code]) (h : One w ok A n c b p s) (hW : ¬ ok W) (hok : ∀ k, ok k → k < w.heap.size) (hN : I64 N) :
    Calls Tryd.prog 20 #[.pointer (some ⟨W, 3, none⟩), .agg #[.int .i64 on, .int .i64 kd, .int .u64 x, .int .i64 N]] w fun e w' => e = .returned (saysV s kd x N) ∧ (∃ p', Blk w' W 41 #[y0, y1, y2, .slice A n c, .int .i64 (p' : Nat), .int .i64 (saysS s kd x N).er.code] ∧ One w' ok A n c b p' (saysS s kd x N)) ∧ Keep (fun k => k = W) w w' := by
  have hBlt := hB.lt
  have HBw := Held.mk hB
  have HOw := Held.mk h
  have HK0 : Held (Keep (fun _ => False) w ((w.alloc (.cells #[.int .i64 on, .int .i64 kd, .int .u64 x, .int .i64 N] 44)).alloc (.cells #[.int .u64 0, .string ⟨#[]⟩, .int .i64 0] 46))) := ⟨((Keep.refl _ _).alloc _).alloc _⟩
  have HB0 := Held.mk (hB.keep HK0.out (fun h => h))
  have HO0 := Held.mk (h.keep HK0.out (fun _ _ h => h))
  have HZ0 : Held (Blk ((w.alloc (.cells #[.int .i64 on, .int .i64 kd, .int .u64 x, .int .i64 N] 44)).alloc (.cells #[.int .u64 0, .string ⟨#[]⟩, .int .i64 0] 46)) (w.heap.size + 1) 46 #[.int .u64 0, .string ⟨#[]⟩, .int .i64 0]) := ⟨by
    have := Blk.new (w.alloc (.cells #[.int .i64 on, .int .i64 kd, .int .u64 x, .int .i64 N] 44)) 46 #[.int .u64 0, .string ⟨#[]⟩, .int .i64 0]
    rw [World.size_alloc] at this
    exact this⟩
  have HBn : Held (W ≠ w.heap.size ∧ W ≠ w.heap.size + 1) := ⟨⟨by omega, by omega⟩⟩
  have HOk : Held (∀ k, ok k → k ≠ w.heap.size + 1) := ⟨fun k hk => by have := hok k hk; omega⟩
  have HSz : Held (w.heap.size < w.heap.size + 1) := ⟨by omega⟩
  have HN := Held.mk hN
  have HW := Held.mk hW
  clear hB h hok hN hBlt hW
  by_cases h0 : kd = 0
  · subst h0
    have HV : Held (saysV s 0 x N = gotV (uintM s x).1 ⟨#[]⟩ 0) := ⟨by unfold saysV; simp⟩
    have HS : Held (saysS s 0 x N = (uintM s x).2) := ⟨by unfold saysS; simp⟩
    go_enter Tryd.func20, Tryd.ntmps20
    go_wp2_with fail
    generalize (w.alloc (.cells #[.int .i64 on, .int .i64 0, .int .u64 x, .int .i64 N] 44)).alloc (.cells #[.int .u64 0, .string ⟨#[]⟩, .int .i64 0] 46) = w0 at *
    refine (ruintR_3 ok W A n c b p s x y0 y1 y2 _ HB0.out HO0.out HW.out).mono ?_
    rintro e w1 ⟨rfl, ⟨p2, hb1, ho1⟩, hk1⟩
    have H1 := Held.mk hb1
    have HOn := Held.mk ho1
    have HK1 := Held.mk hk1
    have HZ1 := Held.mk (HZ0.out.keep hk1 (fun e => HBn.out.2 e.symm))
    clear hb1 ho1 hk1 HZ0
    have z0 := HZ1.out.cell 0
    have z1 := HZ1.out.cell 1
    have z2 := HZ1.out.cell 2
    have f0 := HZ1.out.frozen 0
    have f1 := HZ1.out.frozen 1
    have f2 := HZ1.out.frozen 2
    simp at z0 z1 z2
    go_wp2_with fail
    have HZf : Blk (((w1.setCell ⟨w.heap.size + 1, 0, none⟩ (.int .u64 (uintM s x).1)).setCell ⟨w.heap.size + 1, 1, none⟩ (.string ⟨#[]⟩)).setCell ⟨w.heap.size + 1, 2, none⟩ (.int .i64 0)) (w.heap.size + 1) 46 #[.int .u64 (uintM s x).1, .string ⟨#[]⟩, .int .i64 0] := by
      have := ((HZ1.out.set_ 0 (.int .u64 (uintM s x).1)).set_ 1 (.string ⟨#[]⟩)).set_ 2 (.int .i64 0)
      simpa using this
    have hkR : Keep (fun k => k = w.heap.size + 1) w1 (((w1.setCell ⟨w.heap.size + 1, 0, none⟩ (.int .u64 (uintM s x).1)).setCell ⟨w.heap.size + 1, 1, none⟩ (.string ⟨#[]⟩)).setCell ⟨w.heap.size + 1, 2, none⟩ (.int .i64 0)) := (((Keep.refl (fun k => k = w.heap.size + 1) w1).setCell (p := ⟨w.heap.size + 1, 0, none⟩) (fun _ => rfl) _).setCell (p := ⟨w.heap.size + 1, 1, none⟩) (fun _ => rfl) _).setCell (p := ⟨w.heap.size + 1, 2, none⟩) (fun _ => rfl) _
    refine bodyPost_ret (results_cell_row rfl _ _ (w.heap.size + 1) 46 #[.int .u64 (uintM s x).1, .string ⟨#[]⟩, .int .i64 0] (0, 0) _ rfl HZf Tryd.underlying46 rfl (by kernel_rfl)) rfl ?_
    refine ⟨by rw [HV.out]; rfl, ⟨p2, by rw [HS.out]; exact H1.out.keep hkR (fun e => HBn.out.2 e), by rw [HS.out]; exact HOn.out.keep hkR (fun k hk e => HOk.out k hk e)⟩, ?_⟩
    exact ((HK0.out.mono (fun _ _ h => h.elim)).then HK1.out (fun _ _ h => h)).then hkR (fun i hi h => by have := HSz.out; omega)
  by_cases h1 : kd = 1
  · subst h1
    have HV : Held (saysV s 1 x N = gotV (IntKind.u64.wrap (intM s).1) ⟨#[]⟩ 0) := ⟨by unfold saysV; simp⟩
    have HS : Held (saysS s 1 x N = (intM s).2) := ⟨by unfold saysS; simp⟩
    go_enter Tryd.func20, Tryd.ntmps20
    go_wp2_with fail
    generalize (w.alloc (.cells #[.int .i64 on, .int .i64 1, .int .u64 x, .int .i64 N] 44)).alloc (.cells #[.int .u64 0, .string ⟨#[]⟩, .int .i64 0] 46) = w0 at *
    refine (rintR_3 ok W A n c b p s y0 y1 y2 _ HB0.out HO0.out HW.out).mono ?_
    rintro e w1 ⟨rfl, ⟨p2, hb1, ho1⟩, hk1⟩
    have H1 := Held.mk hb1
    have HOn := Held.mk ho1
    have HK1 := Held.mk hk1
    have HZ1 := Held.mk (HZ0.out.keep hk1 (fun e => HBn.out.2 e.symm))
    clear hb1 ho1 hk1 HZ0
    have z0 := HZ1.out.cell 0
    have z1 := HZ1.out.cell 1
    have z2 := HZ1.out.cell 2
    have f0 := HZ1.out.frozen 0
    have f1 := HZ1.out.frozen 1
    have f2 := HZ1.out.frozen 2
    simp at z0 z1 z2
    go_wp2_with fail
    have HZf : Blk (((w1.setCell ⟨w.heap.size + 1, 0, none⟩ (.int .u64 (IntKind.u64.wrap (intM s).1))).setCell ⟨w.heap.size + 1, 1, none⟩ (.string ⟨#[]⟩)).setCell ⟨w.heap.size + 1, 2, none⟩ (.int .i64 0)) (w.heap.size + 1) 46 #[.int .u64 (IntKind.u64.wrap (intM s).1), .string ⟨#[]⟩, .int .i64 0] := by
      have := ((HZ1.out.set_ 0 (.int .u64 (IntKind.u64.wrap (intM s).1))).set_ 1 (.string ⟨#[]⟩)).set_ 2 (.int .i64 0)
      simpa using this
    have hkR : Keep (fun k => k = w.heap.size + 1) w1 (((w1.setCell ⟨w.heap.size + 1, 0, none⟩ (.int .u64 (IntKind.u64.wrap (intM s).1))).setCell ⟨w.heap.size + 1, 1, none⟩ (.string ⟨#[]⟩)).setCell ⟨w.heap.size + 1, 2, none⟩ (.int .i64 0)) := (((Keep.refl (fun k => k = w.heap.size + 1) w1).setCell (p := ⟨w.heap.size + 1, 0, none⟩) (fun _ => rfl) _).setCell (p := ⟨w.heap.size + 1, 1, none⟩) (fun _ => rfl) _).setCell (p := ⟨w.heap.size + 1, 2, none⟩) (fun _ => rfl) _
    refine bodyPost_ret (results_cell_row rfl _ _ (w.heap.size + 1) 46 #[.int .u64 (IntKind.u64.wrap (intM s).1), .string ⟨#[]⟩, .int .i64 0] (0, 0) _ rfl HZf Tryd.underlying46 rfl (by kernel_rfl)) rfl ?_
    refine ⟨by rw [HV.out]; rfl, ⟨p2, by rw [HS.out]; exact H1.out.keep hkR (fun e => HBn.out.2 e), by rw [HS.out]; exact HOn.out.keep hkR (fun k hk e => HOk.out k hk e)⟩, ?_⟩
    exact ((HK0.out.mono (fun _ _ h => h.elim)).then HK1.out (fun _ _ h => h)).then hkR (fun i hi h => by have := HSz.out; omega)
  by_cases h2 : kd = 2
  · subst h2
    have HV : Held (saysV s 2 x N = gotV 0 (strOfNums (textM s N).1) 0) := ⟨by unfold saysV; simp⟩
    have HS : Held (saysS s 2 x N = (textM s N).2) := ⟨by unfold saysS; simp⟩
    go_enter Tryd.func20, Tryd.ntmps20
    go_wp2_with fail
    generalize (w.alloc (.cells #[.int .i64 on, .int .i64 2, .int .u64 x, .int .i64 N] 44)).alloc (.cells #[.int .u64 0, .string ⟨#[]⟩, .int .i64 0] 46) = w0 at *
    refine (rtextR_3 ok W A n c b p s N HN.out y0 y1 y2 _ HB0.out HO0.out HW.out).mono ?_
    rintro e w1 ⟨rfl, ⟨p2, hb1, ho1⟩, hk1⟩
    have H1 := Held.mk hb1
    have HOn := Held.mk ho1
    have HK1 := Held.mk hk1
    have HZ1 := Held.mk (HZ0.out.keep hk1 (fun e => HBn.out.2 e.symm))
    clear hb1 ho1 hk1 HZ0
    have z0 := HZ1.out.cell 0
    have z1 := HZ1.out.cell 1
    have z2 := HZ1.out.cell 2
    have f0 := HZ1.out.frozen 0
    have f1 := HZ1.out.frozen 1
    have f2 := HZ1.out.frozen 2
    simp at z0 z1 z2
    go_wp2_with fail
    have HZf : Blk (((w1.setCell ⟨w.heap.size + 1, 0, none⟩ (.int .u64 0)).setCell ⟨w.heap.size + 1, 1, none⟩ (.string (strOfNums (textM s N).1))).setCell ⟨w.heap.size + 1, 2, none⟩ (.int .i64 0)) (w.heap.size + 1) 46 #[.int .u64 0, .string (strOfNums (textM s N).1), .int .i64 0] := by
      have := ((HZ1.out.set_ 0 (.int .u64 0)).set_ 1 (.string (strOfNums (textM s N).1))).set_ 2 (.int .i64 0)
      simpa using this
    have hkR : Keep (fun k => k = w.heap.size + 1) w1 (((w1.setCell ⟨w.heap.size + 1, 0, none⟩ (.int .u64 0)).setCell ⟨w.heap.size + 1, 1, none⟩ (.string (strOfNums (textM s N).1))).setCell ⟨w.heap.size + 1, 2, none⟩ (.int .i64 0)) := (((Keep.refl (fun k => k = w.heap.size + 1) w1).setCell (p := ⟨w.heap.size + 1, 0, none⟩) (fun _ => rfl) _).setCell (p := ⟨w.heap.size + 1, 1, none⟩) (fun _ => rfl) _).setCell (p := ⟨w.heap.size + 1, 2, none⟩) (fun _ => rfl) _
    refine bodyPost_ret (results_cell_row rfl _ _ (w.heap.size + 1) 46 #[.int .u64 0, .string (strOfNums (textM s N).1), .int .i64 0] (0, 0) _ rfl HZf Tryd.underlying46 rfl (by kernel_rfl)) rfl ?_
    refine ⟨by rw [HV.out]; rfl, ⟨p2, by rw [HS.out]; exact H1.out.keep hkR (fun e => HBn.out.2 e), by rw [HS.out]; exact HOn.out.keep hkR (fun k hk e => HOk.out k hk e)⟩, ?_⟩
    exact ((HK0.out.mono (fun _ _ h => h.elim)).then HK1.out (fun _ _ h => h)).then hkR (fun i hi h => by have := HSz.out; omega)
  by_cases h3 : kd = 3
  · subst h3
    have HV : Held (saysV s 3 x N = gotV s.xs.length ⟨#[]⟩ 0) := ⟨by unfold saysV; simp⟩
    have HS : Held (saysS s 3 x N = s) := ⟨by unfold saysS; simp⟩
    have hlw : IntKind.u64.wrap (s.xs.length : Int) = (s.xs.length : Int) := by
      have h1 := HO0.out.xs
      have h2 := HO0.out.len
      have h3 := HO0.out.rd.len
      have h4 : s.xs.length ≤ n := by rw [h1, List.length_drop]; omega
      rw [IntKind.wrap_u64]
      omega
    go_enter Tryd.func20, Tryd.ntmps20
    go_wp2_with fail
    generalize (w.alloc (.cells #[.int .i64 on, .int .i64 3, .int .u64 x, .int .i64 N] 44)).alloc (.cells #[.int .u64 0, .string ⟨#[]⟩, .int .i64 0] 46) = w0 at *
    refine (rleftR_3 ok W A n c b p s y0 y1 y2 _ HB0.out HO0.out).mono ?_
    rintro e w1 ⟨rfl, m1, rfl⟩
    have H1 := Held.mk (HB0.out.drewN m1)
    have HK1 : Held (Keep (fun k => k = W) w0 (w0.drewN m1)) := ⟨(Keep.refl _ _).drewN m1⟩
    have HOn := Held.mk (HO0.out.keep ((Keep.refl (fun _ => False) w0).drewN m1) (fun _ _ h => h))
    have HZ1 := Held.mk (HZ0.out.drewN m1)
    obtain ⟨p2, hp2⟩ : ∃ p2, p2 = p := ⟨_, rfl⟩
    rw [← hp2] at H1 HOn
    clear hp2 HZ0 HB0 HO0
    generalize w0.drewN m1 = w1 at *
    have z0 := HZ1.out.cell 0
    have z1 := HZ1.out.cell 1
    have z2 := HZ1.out.cell 2
    have f0 := HZ1.out.frozen 0
    have f1 := HZ1.out.frozen 1
    have f2 := HZ1.out.frozen 2
    simp at z0 z1 z2
    go_wp2_with fail
    have HZf : Blk (((w1.setCell ⟨w.heap.size + 1, 0, none⟩ (.int .u64 s.xs.length)).setCell ⟨w.heap.size + 1, 1, none⟩ (.string ⟨#[]⟩)).setCell ⟨w.heap.size + 1, 2, none⟩ (.int .i64 0)) (w.heap.size + 1) 46 #[.int .u64 s.xs.length, .string ⟨#[]⟩, .int .i64 0] := by
      have := ((HZ1.out.set_ 0 (.int .u64 s.xs.length)).set_ 1 (.string ⟨#[]⟩)).set_ 2 (.int .i64 0)
      simpa using this
    have hkR : Keep (fun k => k = w.heap.size + 1) w1 (((w1.setCell ⟨w.heap.size + 1, 0, none⟩ (.int .u64 s.xs.length)).setCell ⟨w.heap.size + 1, 1, none⟩ (.string ⟨#[]⟩)).setCell ⟨w.heap.size + 1, 2, none⟩ (.int .i64 0)) := (((Keep.refl (fun k => k = w.heap.size + 1) w1).setCell (p := ⟨w.heap.size + 1, 0, none⟩) (fun _ => rfl) _).setCell (p := ⟨w.heap.size + 1, 1, none⟩) (fun _ => rfl) _).setCell (p := ⟨w.heap.size + 1, 2, none⟩) (fun _ => rfl) _
    refine bodyPost_ret (results_cell_row rfl _ _ (w.heap.size + 1) 46 #[.int .u64 s.xs.length, .string ⟨#[]⟩, .int .i64 0] (0, 0) _ rfl HZf Tryd.underlying46 rfl (by kernel_rfl)) rfl ?_
    refine ⟨by rw [HV.out]; rfl, ⟨p2, by rw [HS.out]; exact H1.out.keep hkR (fun e => HBn.out.2 e), by rw [HS.out]; exact HOn.out.keep hkR (fun k hk e => HOk.out k hk e)⟩, ?_⟩
    exact ((HK0.out.mono (fun _ _ h => h.elim)).then HK1.out (fun _ _ h => h)).then hkR (fun i hi h => by have := HSz.out; omega)
  by_cases h4 : kd = 4
  · subst h4
    have HV : Held (saysV s 4 x N = gotV 0 ⟨#[]⟩ s.er.code) := ⟨by unfold saysV; simp⟩
    have HS : Held (saysS s 4 x N = s) := ⟨by unfold saysS; simp⟩
    have k2 := HB0.out.cell 5
    simp at k2
    go_enter Tryd.func20, Tryd.ntmps20
    have HKf : Held (Keep (fun _ => False) w ((w.alloc (.cells #[.int .i64 on, .int .i64 4, .int .u64 x, .int .i64 N] 44)).alloc (.cells #[.int .u64 0, .string ⟨#[]⟩, .int .i64 s.er.code] 46))) := ⟨((Keep.refl _ _).alloc _).alloc _⟩
    have HZf : Held (Blk ((w.alloc (.cells #[.int .i64 on, .int .i64 4, .int .u64 x, .int .i64 N] 44)).alloc (.cells #[.int .u64 0, .string ⟨#[]⟩, .int .i64 s.er.code] 46)) (w.heap.size + 1) 46 #[.int .u64 0, .string ⟨#[]⟩, .int .i64 s.er.code]) := ⟨by
      have := Blk.new (w.alloc (.cells #[.int .i64 on, .int .i64 4, .int .u64 x, .int .i64 N] 44)) 46 #[.int .u64 0, .string ⟨#[]⟩, .int .i64 s.er.code]
      rw [World.size_alloc] at this
      exact this⟩
    have z0 := HZ0.out.cell 0
    have z1 := HZ0.out.cell 1
    have z2 := HZ0.out.cell 2
    have f0 := HZ0.out.frozen 0
    have f1 := HZ0.out.frozen 1
    have f2 := HZ0.out.frozen 2
    simp at z0 z1 z2
    clear HZ0 HB0 HO0 HK0
    go_wp2_with fail
    refine bodyPost_ret (results_cell_row rfl _ _ (w.heap.size + 1) 46 #[.int .u64 0, .string ⟨#[]⟩, .int .i64 s.er.code] (0, 0) _ rfl HZf.out Tryd.underlying46 rfl (by kernel_rfl)) rfl ?_
    exact ⟨by rw [HV.out]; rfl, ⟨p, by rw [HS.out]; exact HBw.out.keep HKf.out (fun h => h), by rw [HS.out]; exact HOw.out.keep HKf.out (fun _ _ h => h)⟩, HKf.out.mono (fun _ _ h => h.elim)⟩
  have d0 : (kd == 0) = false := beq_eq_false_iff_ne.2 h0
  have d1 : (kd == 1) = false := beq_eq_false_iff_ne.2 h1
  have d2 : (kd == 2) = false := beq_eq_false_iff_ne.2 h2
  have d3 : (kd == 3) = false := beq_eq_false_iff_ne.2 h3
  have d4 : (kd == 4) = false := beq_eq_false_iff_ne.2 h4
  have HV : Held (saysV s kd x N = gotV 0 ⟨#[]⟩ (endM s).code) := ⟨by unfold saysV; simp [h0, h1, h2, h3, h4]⟩
  have HS : Held (saysS s kd x N = s) := ⟨by unfold saysS; simp [h0, h1, h2]⟩
  go_enter Tryd.func20, Tryd.ntmps20
  go_wp2_with fail
  generalize (w.alloc (.cells #[.int .i64 on, .int .i64 kd, .int .u64 x, .int .i64 N] 44)).alloc (.cells #[.int .u64 0, .string ⟨#[]⟩, .int .i64 0] 46) = w0 at *
  refine (rendR_3 ok W A n c b p s y0 y1 y2 _ HB0.out HO0.out).mono ?_
  rintro e w1 ⟨rfl, m1, rfl⟩
  have H1 := Held.mk (HB0.out.drewN m1)
  have HK1 : Held (Keep (fun k => k = W) w0 (w0.drewN m1)) := ⟨(Keep.refl _ _).drewN m1⟩
  have HOn := Held.mk (HO0.out.keep ((Keep.refl (fun _ => False) w0).drewN m1) (fun _ _ h => h))
  have HZ1 := Held.mk (HZ0.out.drewN m1)
  obtain ⟨p2, hp2⟩ : ∃ p2, p2 = p := ⟨_, rfl⟩
  rw [← hp2] at H1 HOn
  clear hp2 HZ0 HB0 HO0
  generalize w0.drewN m1 = w1 at *
  have z0 := HZ1.out.cell 0
  have z1 := HZ1.out.cell 1
  have z2 := HZ1.out.cell 2
  have f0 := HZ1.out.frozen 0
  have f1 := HZ1.out.frozen 1
  have f2 := HZ1.out.frozen 2
  simp at z0 z1 z2
  go_wp2_with fail
  have HZf : Blk (((w1.setCell ⟨w.heap.size + 1, 0, none⟩ (.int .u64 0)).setCell ⟨w.heap.size + 1, 1, none⟩ (.string ⟨#[]⟩)).setCell ⟨w.heap.size + 1, 2, none⟩ (.int .i64 (endM s).code)) (w.heap.size + 1) 46 #[.int .u64 0, .string ⟨#[]⟩, .int .i64 (endM s).code] := by
    have := ((HZ1.out.set_ 0 (.int .u64 0)).set_ 1 (.string ⟨#[]⟩)).set_ 2 (.int .i64 (endM s).code)
    simpa using this
  have hkR : Keep (fun k => k = w.heap.size + 1) w1 (((w1.setCell ⟨w.heap.size + 1, 0, none⟩ (.int .u64 0)).setCell ⟨w.heap.size + 1, 1, none⟩ (.string ⟨#[]⟩)).setCell ⟨w.heap.size + 1, 2, none⟩ (.int .i64 (endM s).code)) := (((Keep.refl (fun k => k = w.heap.size + 1) w1).setCell (p := ⟨w.heap.size + 1, 0, none⟩) (fun _ => rfl) _).setCell (p := ⟨w.heap.size + 1, 1, none⟩) (fun _ => rfl) _).setCell (p := ⟨w.heap.size + 1, 2, none⟩) (fun _ => rfl) _
  refine bodyPost_ret (results_cell_row rfl _ _ (w.heap.size + 1) 46 #[.int .u64 0, .string ⟨#[]⟩, .int .i64 (endM s).code] (0, 0) _ rfl HZf Tryd.underlying46 rfl (by kernel_rfl)) rfl ?_
  refine ⟨by rw [HV.out]; rfl, ⟨p2, by rw [HS.out]; exact H1.out.keep hkR (fun e => HBn.out.2 e), by rw [HS.out]; exact HOn.out.keep hkR (fun k hk e => HOk.out k hk e)⟩, ?_⟩
  exact ((HK0.out.mono (fun _ _ h => h.elim)).then HK1.out (fun _ _ h => h)).then hkR (fun i hi h => by have := HSz.out; omega)
end Wire
end Go.Proofs.YthkhemcbkcoliaaDoor
