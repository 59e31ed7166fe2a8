/- One call of the reader, and what it answers: walked. -/
import Derived.Test.YthkhemcbkcoliaaDoorNmb
import Derived.Test.YthkhemcbkcoliaaDoorRrf
import Derived.Laws.Rows
namespace Go.Proofs.YthkhemcbkcoliaaDoor
set_option linter.unusedVariables false
set_option linter.unusedSimpArgs false
namespace Wire
open Go.RowKit Mem Apn Err Aps
def gotV (x : Int) (t : ByteArray) (e : Int) : Value := .agg #[.int .u64 x, .string t, .int .i64 e]
/-- What a call answers, and what it leaves of a reader. -/
def saysV (s : RS) (kd : Int) (x : Nat) (N : Int) : Value :=
  if kd = 0 then gotV (uintM s x).1 ⟨#[]⟩ 0 else if kd = 1 then gotV (IntKind.u64.wrap (intM s).1) ⟨#[]⟩ 0 else if kd = 2 then gotV 0 (strOfNums (textM s N).1) 0
  else if kd = 3 then gotV s.xs.length ⟨#[]⟩ 0 else if kd = 4 then gotV 0 ⟨#[]⟩ s.er.code else gotV 0 ⟨#[]⟩ (endM s).code
def saysS (s : RS) (kd : Int) (x : Nat) (N : Int) : RS := if kd = 0 then (uintM s x).2 else if kd = 1 then (intM s).2 else if kd = 2 then (textM s N).2 else s
set_option maxHeartbeats 400000 in
set_option maxRecDepth 100000 in
theorem err_any (ok : Nat → Prop) (B : Nat) (A : Option Addr) (n c : Nat) (s : RS) (w : World) (h : Rdr w ok B A n c s) :
    Calls Tryd.prog 24 #[.pointer (some ⟨B, 0, none⟩)] w fun e w' => e = .returned s.er.enc ∧ w = w' := by
  have k1 := h.blk.cell 1
  simp at k1
  have HE := Er.enc_cases s.er
  generalize s.er.enc = ev at *
  clear h
  go_enter Tryd.func24, Tryd.ntmps24
  go_wp2
  go_ret
  exact ⟨rfl, rfl⟩
theorem failM_fit {e : Er} (h : e.fit) (n : Int) (h1 : 1 ≤ n) (h2 : n ≤ 24) : (failM e n).fit := by
  cases e with
  | ok => exact ⟨h1, h2⟩
  | no k => exact h
  | ref s k => exact h
theorem endM_fit (s : RS) (h : s.er.fit) : (endM s).fit := by
  unfold endM
  split
  · split
    · exact trivial
    · exact ⟨by decide, by decide⟩
  · exact h
set_option maxHeartbeats 4000000 in
set_option maxRecDepth 100000 in
theorem ask_any (ok : Nat → Prop) (B : Nat) (A : Option Addr) (n c : Nat) (s : RS) (on kd : Int) (x : Nat) (N : Int) (w : World) (h : Rdr w ok B A n c s) (hok : ∀ k, ok k → k < w.heap.size) (hN : I64 N) (hf : s.er.fit) (hg : Laid w) :
    Calls Tryd.prog 19 #[.pointer (some ⟨B, 0, none⟩), .agg #[.int .i64 on, .int .i64 kd, .int .u64 x, .int .i64 N]] w fun e w' => e = .returned (saysV s kd x N) ∧ (∃ A' n' c', Rdr w' ok B A' n' c' (saysS s kd x N)) ∧ Keep (fun k => k = B) w w' := by
  have hBlt := h.blk.lt
  have HK0 : Held (Keep (fun _ => False) w ((w.alloc (.cells #[.int .i64 on, .int .i64 kd, .int .u64 x, .int .i64 N] 44)).alloc (.cells #[.int .u64 0, .string ⟨#[]⟩, .int .i64 0] 46))) := ⟨((Keep.refl _ _).alloc _).alloc _⟩
  have HR0 := Held.mk (h.keep HK0.out (fun h => h) (fun _ _ h => h))
  have HG0 : Held (Laid ((w.alloc (.cells #[.int .i64 on, .int .i64 kd, .int .u64 x, .int .i64 N] 44)).alloc (.cells #[.int .u64 0, .string ⟨#[]⟩, .int .i64 0] 46))) := ⟨hg.below (HK0.out.to_below (fun _ _ h => h))⟩
  have HX0 : Held (Blk ((w.alloc (.cells #[.int .i64 on, .int .i64 kd, .int .u64 x, .int .i64 N] 44)).alloc (.cells #[.int .u64 0, .string ⟨#[]⟩, .int .i64 0] 46)) w.heap.size 44 #[.int .i64 on, .int .i64 kd, .int .u64 x, .int .i64 N]) := ⟨(Blk.new _ _ _).alloc _⟩
  have HZ0 : Held (Blk ((w.alloc (.cells #[.int .i64 on, .int .i64 kd, .int .u64 x, .int .i64 N] 44)).alloc (.cells #[.int .u64 0, .string ⟨#[]⟩, .int .i64 0] 46)) (w.heap.size + 1) 46 #[.int .u64 0, .string ⟨#[]⟩, .int .i64 0]) := ⟨by
    have := Blk.new (w.alloc (.cells #[.int .i64 on, .int .i64 kd, .int .u64 x, .int .i64 N] 44)) 46 #[.int .u64 0, .string ⟨#[]⟩, .int .i64 0]
    rw [World.size_alloc] at this
    exact this⟩
  have HBn : Held (B ≠ w.heap.size ∧ B ≠ w.heap.size + 1) := ⟨⟨by omega, by omega⟩⟩
  have HOk : Held (∀ k, ok k → k ≠ w.heap.size + 1) := ⟨fun k hk => by have := hok k hk; omega⟩
  have HSz : Held (w.heap.size < w.heap.size + 1) := ⟨by omega⟩
  have HN := Held.mk hN
  have HF := Held.mk hf
  clear h hok hg hf hN hBlt
  by_cases h0 : kd = 0
  · subst h0
    have HV : Held (saysV s 0 x N = gotV (uintM s x).1 ⟨#[]⟩ 0) := ⟨by unfold saysV; simp⟩
    have HS : Held (saysS s 0 x N = (uintM s x).2) := ⟨by unfold saysS; simp⟩
    go_enter Tryd.func19, Tryd.ntmps19
    go_wp2_with fail
    generalize (w.alloc (.cells #[.int .i64 on, .int .i64 0, .int .u64 x, .int .i64 N] 44)).alloc (.cells #[.int .u64 0, .string ⟨#[]⟩, .int .i64 0] 46) = w0 at *
    refine (ruint_any ok B A n c s x _ HR0.out).mono ?_
    rintro e w1 ⟨rfl, ⟨A2, n2, c2, h1⟩, hk1⟩
    have H1 := Held.mk h1
    have HK1 := Held.mk hk1
    have HZ1 := Held.mk (HZ0.out.keep hk1 (fun e => HBn.out.2 e.symm))
    clear h1 hk1 HZ0
    have z0 := HZ1.out.cell 0
    have z1 := HZ1.out.cell 1
    have z2 := HZ1.out.cell 2
    have f0 := HZ1.out.frozen 0
    have f1 := HZ1.out.frozen 1
    have f2 := HZ1.out.frozen 2
    simp at z0 z1 z2
    go_wp2_with fail
    have HZf : Blk (((w1.setCell ⟨w.heap.size + 1, 0, none⟩ (.int .u64 (uintM s x).1)).setCell ⟨w.heap.size + 1, 1, none⟩ (.string ⟨#[]⟩)).setCell ⟨w.heap.size + 1, 2, none⟩ (.int .i64 0)) (w.heap.size + 1) 46 #[.int .u64 (uintM s x).1, .string ⟨#[]⟩, .int .i64 0] := by
      have := ((HZ1.out.set_ 0 (.int .u64 (uintM s x).1)).set_ 1 (.string ⟨#[]⟩)).set_ 2 (.int .i64 0)
      simpa using this
    have hkR : Keep (fun k => k = w.heap.size + 1) w1 (((w1.setCell ⟨w.heap.size + 1, 0, none⟩ (.int .u64 (uintM s x).1)).setCell ⟨w.heap.size + 1, 1, none⟩ (.string ⟨#[]⟩)).setCell ⟨w.heap.size + 1, 2, none⟩ (.int .i64 0)) := (((Keep.refl (fun k => k = w.heap.size + 1) w1).setCell (p := ⟨w.heap.size + 1, 0, none⟩) (fun _ => rfl) _).setCell (p := ⟨w.heap.size + 1, 1, none⟩) (fun _ => rfl) _).setCell (p := ⟨w.heap.size + 1, 2, none⟩) (fun _ => rfl) _
    refine bodyPost_ret (results_cell_row rfl _ _ (w.heap.size + 1) 46 #[.int .u64 (uintM s x).1, .string ⟨#[]⟩, .int .i64 0] (0, 0) _ rfl HZf Tryd.underlying46 rfl (by kernel_rfl)) rfl ?_
    refine ⟨by rw [HV.out]; rfl, ⟨A2, n2, c2, by rw [HS.out]; exact H1.out.keep hkR (fun e => HBn.out.2 e) (fun k hk e => HOk.out k hk e)⟩, ?_⟩
    exact ((HK0.out.mono (fun _ _ h => h.elim)).then HK1.out (fun _ _ h => h)).then hkR (fun i hi h => by have := HSz.out; omega)
  by_cases h1 : kd = 1
  · subst h1
    have HV : Held (saysV s 1 x N = gotV (IntKind.u64.wrap (intM s).1) ⟨#[]⟩ 0) := ⟨by unfold saysV; simp⟩
    have HS : Held (saysS s 1 x N = (intM s).2) := ⟨by unfold saysS; simp⟩
    go_enter Tryd.func19, Tryd.ntmps19
    go_wp2_with fail
    generalize (w.alloc (.cells #[.int .i64 on, .int .i64 1, .int .u64 x, .int .i64 N] 44)).alloc (.cells #[.int .u64 0, .string ⟨#[]⟩, .int .i64 0] 46) = w0 at *
    refine (rint_any ok B A n c s _ HR0.out).mono ?_
    rintro e w1 ⟨rfl, ⟨A2, n2, c2, h1⟩, hk1⟩
    have H1 := Held.mk h1
    have HK1 := Held.mk hk1
    have HZ1 := Held.mk (HZ0.out.keep hk1 (fun e => HBn.out.2 e.symm))
    clear h1 hk1 HZ0
    have z0 := HZ1.out.cell 0
    have z1 := HZ1.out.cell 1
    have z2 := HZ1.out.cell 2
    have f0 := HZ1.out.frozen 0
    have f1 := HZ1.out.frozen 1
    have f2 := HZ1.out.frozen 2
    simp at z0 z1 z2
    go_wp2_with fail
    have HZf : Blk (((w1.setCell ⟨w.heap.size + 1, 0, none⟩ (.int .u64 (IntKind.u64.wrap (intM s).1))).setCell ⟨w.heap.size + 1, 1, none⟩ (.string ⟨#[]⟩)).setCell ⟨w.heap.size + 1, 2, none⟩ (.int .i64 0)) (w.heap.size + 1) 46 #[.int .u64 (IntKind.u64.wrap (intM s).1), .string ⟨#[]⟩, .int .i64 0] := by
      have := ((HZ1.out.set_ 0 (.int .u64 (IntKind.u64.wrap (intM s).1))).set_ 1 (.string ⟨#[]⟩)).set_ 2 (.int .i64 0)
      simpa using this
    have hkR : Keep (fun k => k = w.heap.size + 1) w1 (((w1.setCell ⟨w.heap.size + 1, 0, none⟩ (.int .u64 (IntKind.u64.wrap (intM s).1))).setCell ⟨w.heap.size + 1, 1, none⟩ (.string ⟨#[]⟩)).setCell ⟨w.heap.size + 1, 2, none⟩ (.int .i64 0)) := (((Keep.refl (fun k => k = w.heap.size + 1) w1).setCell (p := ⟨w.heap.size + 1, 0, none⟩) (fun _ => rfl) _).setCell (p := ⟨w.heap.size + 1, 1, none⟩) (fun _ => rfl) _).setCell (p := ⟨w.heap.size + 1, 2, none⟩) (fun _ => rfl) _
    refine bodyPost_ret (results_cell_row rfl _ _ (w.heap.size + 1) 46 #[.int .u64 (IntKind.u64.wrap (intM s).1), .string ⟨#[]⟩, .int .i64 0] (0, 0) _ rfl HZf Tryd.underlying46 rfl (by kernel_rfl)) rfl ?_
    refine ⟨by rw [HV.out]; rfl, ⟨A2, n2, c2, by rw [HS.out]; exact H1.out.keep hkR (fun e => HBn.out.2 e) (fun k hk e => HOk.out k hk e)⟩, ?_⟩
    exact ((HK0.out.mono (fun _ _ h => h.elim)).then HK1.out (fun _ _ h => h)).then hkR (fun i hi h => by have := HSz.out; omega)
  by_cases h2 : kd = 2
  · subst h2
    have HV : Held (saysV s 2 x N = gotV 0 (strOfNums (textM s N).1) 0) := ⟨by unfold saysV; simp⟩
    have HS : Held (saysS s 2 x N = (textM s N).2) := ⟨by unfold saysS; simp⟩
    go_enter Tryd.func19, Tryd.ntmps19
    go_wp2_with fail
    generalize (w.alloc (.cells #[.int .i64 on, .int .i64 2, .int .u64 x, .int .i64 N] 44)).alloc (.cells #[.int .u64 0, .string ⟨#[]⟩, .int .i64 0] 46) = w0 at *
    refine (rtext_any ok B A n c s N _ HN.out HR0.out).mono ?_
    rintro e w1 ⟨rfl, ⟨A2, n2, c2, h1⟩, hk1⟩
    have H1 := Held.mk h1
    have HK1 := Held.mk hk1
    have HZ1 := Held.mk (HZ0.out.keep hk1 (fun e => HBn.out.2 e.symm))
    clear h1 hk1 HZ0
    have z0 := HZ1.out.cell 0
    have z1 := HZ1.out.cell 1
    have z2 := HZ1.out.cell 2
    have f0 := HZ1.out.frozen 0
    have f1 := HZ1.out.frozen 1
    have f2 := HZ1.out.frozen 2
    simp at z0 z1 z2
    go_wp2_with fail
    have HZf : Blk (((w1.setCell ⟨w.heap.size + 1, 0, none⟩ (.int .u64 0)).setCell ⟨w.heap.size + 1, 1, none⟩ (.string (strOfNums (textM s N).1))).setCell ⟨w.heap.size + 1, 2, none⟩ (.int .i64 0)) (w.heap.size + 1) 46 #[.int .u64 0, .string (strOfNums (textM s N).1), .int .i64 0] := by
      have := ((HZ1.out.set_ 0 (.int .u64 0)).set_ 1 (.string (strOfNums (textM s N).1))).set_ 2 (.int .i64 0)
      simpa using this
    have hkR : Keep (fun k => k = w.heap.size + 1) w1 (((w1.setCell ⟨w.heap.size + 1, 0, none⟩ (.int .u64 0)).setCell ⟨w.heap.size + 1, 1, none⟩ (.string (strOfNums (textM s N).1))).setCell ⟨w.heap.size + 1, 2, none⟩ (.int .i64 0)) := (((Keep.refl (fun k => k = w.heap.size + 1) w1).setCell (p := ⟨w.heap.size + 1, 0, none⟩) (fun _ => rfl) _).setCell (p := ⟨w.heap.size + 1, 1, none⟩) (fun _ => rfl) _).setCell (p := ⟨w.heap.size + 1, 2, none⟩) (fun _ => rfl) _
    refine bodyPost_ret (results_cell_row rfl _ _ (w.heap.size + 1) 46 #[.int .u64 0, .string (strOfNums (textM s N).1), .int .i64 0] (0, 0) _ rfl HZf Tryd.underlying46 rfl (by kernel_rfl)) rfl ?_
    refine ⟨by rw [HV.out]; rfl, ⟨A2, n2, c2, by rw [HS.out]; exact H1.out.keep hkR (fun e => HBn.out.2 e) (fun k hk e => HOk.out k hk e)⟩, ?_⟩
    exact ((HK0.out.mono (fun _ _ h => h.elim)).then HK1.out (fun _ _ h => h)).then hkR (fun i hi h => by have := HSz.out; omega)
  by_cases h3 : kd = 3
  · subst h3
    have HV : Held (saysV s 3 x N = gotV s.xs.length ⟨#[]⟩ 0) := ⟨by unfold saysV; simp⟩
    have HS : Held (saysS s 3 x N = s) := ⟨by unfold saysS; simp⟩
    have hlw : IntKind.u64.wrap (s.xs.length : Int) = (s.xs.length : Int) := by have h1 := HR0.out.rd.len; have h2 := HR0.out.len; rw [IntKind.wrap_u64]; omega
    go_enter Tryd.func19, Tryd.ntmps19
    go_wp2_with fail
    generalize (w.alloc (.cells #[.int .i64 on, .int .i64 3, .int .u64 x, .int .i64 N] 44)).alloc (.cells #[.int .u64 0, .string ⟨#[]⟩, .int .i64 0] 46) = w0 at *
    refine (left_any ok B A n c s _ HR0.out).mono ?_
    rintro e w1 ⟨rfl, rfl⟩
    have H1 := HR0
    have HK1 : Held (Keep (fun k => k = B) w0 w0) := ⟨Keep.refl _ _⟩
    have HZ1 := HZ0
    clear HZ0
    have z0 := HZ1.out.cell 0
    have z1 := HZ1.out.cell 1
    have z2 := HZ1.out.cell 2
    have f0 := HZ1.out.frozen 0
    have f1 := HZ1.out.frozen 1
    have f2 := HZ1.out.frozen 2
    simp at z0 z1 z2
    go_wp2_with fail
    have HZf : Blk (((w0.setCell ⟨w.heap.size + 1, 0, none⟩ (.int .u64 s.xs.length)).setCell ⟨w.heap.size + 1, 1, none⟩ (.string ⟨#[]⟩)).setCell ⟨w.heap.size + 1, 2, none⟩ (.int .i64 0)) (w.heap.size + 1) 46 #[.int .u64 s.xs.length, .string ⟨#[]⟩, .int .i64 0] := by
      have := ((HZ1.out.set_ 0 (.int .u64 s.xs.length)).set_ 1 (.string ⟨#[]⟩)).set_ 2 (.int .i64 0)
      simpa using this
    have hkR : Keep (fun k => k = w.heap.size + 1) w0 (((w0.setCell ⟨w.heap.size + 1, 0, none⟩ (.int .u64 s.xs.length)).setCell ⟨w.heap.size + 1, 1, none⟩ (.string ⟨#[]⟩)).setCell ⟨w.heap.size + 1, 2, none⟩ (.int .i64 0)) := (((Keep.refl (fun k => k = w.heap.size + 1) w0).setCell (p := ⟨w.heap.size + 1, 0, none⟩) (fun _ => rfl) _).setCell (p := ⟨w.heap.size + 1, 1, none⟩) (fun _ => rfl) _).setCell (p := ⟨w.heap.size + 1, 2, none⟩) (fun _ => rfl) _
    refine bodyPost_ret (results_cell_row rfl _ _ (w.heap.size + 1) 46 #[.int .u64 s.xs.length, .string ⟨#[]⟩, .int .i64 0] (0, 0) _ rfl HZf Tryd.underlying46 rfl (by kernel_rfl)) rfl ?_
    refine ⟨by rw [HV.out]; rfl, ⟨A, n, c, by rw [HS.out]; exact H1.out.keep hkR (fun e => HBn.out.2 e) (fun k hk e => HOk.out k hk e)⟩, ?_⟩
    exact ((HK0.out.mono (fun _ _ h => h.elim)).then HK1.out (fun _ _ h => h)).then hkR (fun i hi h => by have := HSz.out; omega)
  by_cases h4 : kd = 4
  · subst h4
    have HV : Held (saysV s 4 x N = gotV 0 ⟨#[]⟩ s.er.code) := ⟨by unfold saysV; simp⟩
    have HS : Held (saysS s 4 x N = s) := ⟨by unfold saysS; simp⟩
    go_enter Tryd.func19, Tryd.ntmps19
    go_wp2_with fail
    generalize (w.alloc (.cells #[.int .i64 on, .int .i64 4, .int .u64 x, .int .i64 N] 44)).alloc (.cells #[.int .u64 0, .string ⟨#[]⟩, .int .i64 0] 46) = w0 at *
    refine (err_any ok B A n c s _ HR0.out).mono ?_
    rintro e w1 ⟨rfl, rfl⟩
    go_wp2_with fail
    refine (number_fit s.er (HF.out) w0 HG0.out).mono ?_
    rintro e w1 ⟨rfl, hb1⟩
    have H1 := Held.mk (HR0.out.keep (Keep.of_below hb1 (fun _ => False)) (fun h => h) (fun _ _ h => h))
    have HK1 := Held.mk (Keep.of_below hb1 (fun k => k = B))
    have HZ1 := Held.mk (HZ0.out.keep (Keep.of_below hb1 (fun _ => False)) (fun h => h))
    clear hb1 HZ0
    have z0 := HZ1.out.cell 0
    have z1 := HZ1.out.cell 1
    have z2 := HZ1.out.cell 2
    have f0 := HZ1.out.frozen 0
    have f1 := HZ1.out.frozen 1
    have f2 := HZ1.out.frozen 2
    simp at z0 z1 z2
    go_wp2_with fail
    have HZf : Blk (((w1.setCell ⟨w.heap.size + 1, 0, none⟩ (.int .u64 0)).setCell ⟨w.heap.size + 1, 1, none⟩ (.string ⟨#[]⟩)).setCell ⟨w.heap.size + 1, 2, none⟩ (.int .i64 s.er.code)) (w.heap.size + 1) 46 #[.int .u64 0, .string ⟨#[]⟩, .int .i64 s.er.code] := by
      have := ((HZ1.out.set_ 0 (.int .u64 0)).set_ 1 (.string ⟨#[]⟩)).set_ 2 (.int .i64 s.er.code)
      simpa using this
    have hkR : Keep (fun k => k = w.heap.size + 1) w1 (((w1.setCell ⟨w.heap.size + 1, 0, none⟩ (.int .u64 0)).setCell ⟨w.heap.size + 1, 1, none⟩ (.string ⟨#[]⟩)).setCell ⟨w.heap.size + 1, 2, none⟩ (.int .i64 s.er.code)) := (((Keep.refl (fun k => k = w.heap.size + 1) w1).setCell (p := ⟨w.heap.size + 1, 0, none⟩) (fun _ => rfl) _).setCell (p := ⟨w.heap.size + 1, 1, none⟩) (fun _ => rfl) _).setCell (p := ⟨w.heap.size + 1, 2, none⟩) (fun _ => rfl) _
    refine bodyPost_ret (results_cell_row rfl _ _ (w.heap.size + 1) 46 #[.int .u64 0, .string ⟨#[]⟩, .int .i64 s.er.code] (0, 0) _ rfl HZf Tryd.underlying46 rfl (by kernel_rfl)) rfl ?_
    refine ⟨by rw [HV.out]; rfl, ⟨A, n, c, by rw [HS.out]; exact H1.out.keep hkR (fun e => HBn.out.2 e) (fun k hk e => HOk.out k hk e)⟩, ?_⟩
    exact ((HK0.out.mono (fun _ _ h => h.elim)).then HK1.out (fun _ _ h => h)).then hkR (fun i hi h => by have := HSz.out; omega)
  have d0 : (kd == 0) = false := beq_eq_false_iff_ne.2 h0
  have d1 : (kd == 1) = false := beq_eq_false_iff_ne.2 h1
  have d2 : (kd == 2) = false := beq_eq_false_iff_ne.2 h2
  have d3 : (kd == 3) = false := beq_eq_false_iff_ne.2 h3
  have d4 : (kd == 4) = false := beq_eq_false_iff_ne.2 h4
  have HV : Held (saysV s kd x N = gotV 0 ⟨#[]⟩ (endM s).code) := ⟨by unfold saysV; simp [h0, h1, h2, h3, h4]⟩
  have HS : Held (saysS s kd x N = s) := ⟨by unfold saysS; simp [h0, h1, h2]⟩
  go_enter Tryd.func19, Tryd.ntmps19
  go_wp2_with fail
  generalize (w.alloc (.cells #[.int .i64 on, .int .i64 kd, .int .u64 x, .int .i64 N] 44)).alloc (.cells #[.int .u64 0, .string ⟨#[]⟩, .int .i64 0] 46) = w0 at *
  refine (end_any ok B A n c s _ HR0.out).mono ?_
  rintro e w1 ⟨rfl, rfl⟩
  go_wp2_with fail
  refine (number_fit (endM s) (endM_fit s HF.out) w0 HG0.out).mono ?_
  rintro e w1 ⟨rfl, hb1⟩
  have H1 := Held.mk (HR0.out.keep (Keep.of_below hb1 (fun _ => False)) (fun h => h) (fun _ _ h => h))
  have HK1 := Held.mk (Keep.of_below hb1 (fun k => k = B))
  have HZ1 := Held.mk (HZ0.out.keep (Keep.of_below hb1 (fun _ => False)) (fun h => h))
  clear hb1 HZ0
  have z0 := HZ1.out.cell 0
  have z1 := HZ1.out.cell 1
  have z2 := HZ1.out.cell 2
  have f0 := HZ1.out.frozen 0
  have f1 := HZ1.out.frozen 1
  have f2 := HZ1.out.frozen 2
  simp at z0 z1 z2
  go_wp2_with fail
  have HZf : Blk (((w1.setCell ⟨w.heap.size + 1, 0, none⟩ (.int .u64 0)).setCell ⟨w.heap.size + 1, 1, none⟩ (.string ⟨#[]⟩)).setCell ⟨w.heap.size + 1, 2, none⟩ (.int .i64 (endM s).code)) (w.heap.size + 1) 46 #[.int .u64 0, .string ⟨#[]⟩, .int .i64 (endM s).code] := by
    have := ((HZ1.out.set_ 0 (.int .u64 0)).set_ 1 (.string ⟨#[]⟩)).set_ 2 (.int .i64 (endM s).code)
    simpa using this
  have hkR : Keep (fun k => k = w.heap.size + 1) w1 (((w1.setCell ⟨w.heap.size + 1, 0, none⟩ (.int .u64 0)).setCell ⟨w.heap.size + 1, 1, none⟩ (.string ⟨#[]⟩)).setCell ⟨w.heap.size + 1, 2, none⟩ (.int .i64 (endM s).code)) := (((Keep.refl (fun k => k = w.heap.size + 1) w1).setCell (p := ⟨w.heap.size + 1, 0, none⟩) (fun _ => rfl) _).setCell (p := ⟨w.heap.size + 1, 1, none⟩) (fun _ => rfl) _).setCell (p := ⟨w.heap.size + 1, 2, none⟩) (fun _ => rfl) _
  refine bodyPost_ret (results_cell_row rfl _ _ (w.heap.size + 1) 46 #[.int .u64 0, .string ⟨#[]⟩, .int .i64 (endM s).code] (0, 0) _ rfl HZf Tryd.underlying46 rfl (by kernel_rfl)) rfl ?_
  refine ⟨by rw [HV.out]; rfl, ⟨A, n, c, by rw [HS.out]; exact H1.out.keep hkR (fun e => HBn.out.2 e) (fun k hk e => HOk.out k hk e)⟩, ?_⟩
  exact ((HK0.out.mono (fun _ _ h => h.elim)).then HK1.out (fun _ _ h => h)).then hkR (fun i hi h => by have := HSz.out; omega)
end Wire
end Go.Proofs.YthkhemcbkcoliaaDoor
