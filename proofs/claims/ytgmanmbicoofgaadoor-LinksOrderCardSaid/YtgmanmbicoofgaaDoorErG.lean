/- errors.As at a Fault, the target a Fault: it is that one; Place and At of the law's kit. -/
import Derived.Test.YtgmanmbicoofgaaDoorErF
import Derived.Deep.RegionHeld3
namespace Go.Proofs.YtgmanmbicoofgaaDoor
set_option linter.unusedVariables false
set_option linter.unusedSimpArgs false
namespace Err
open Go.RowKit Go.Extern.Stop Go.Stop Go.Extern Mem
theorem vF (k l a : Int) (w : World) : (ReflectliteValue.unpack (.iface 93 (.agg #[.int .i64 k, .int .i64 l, .int .i64 a]))).run Tryd.prog w
    = .ok (.agg #[.pointer (some ⟨1, 93, none⟩), .pointer (some ⟨w.heap.size, 0, none⟩), .int .u64 153]) (w.alloc (.cells #[.int .i64 k, .int .i64 l, .int .i64 a] 93)) := by kernel_rfl
theorem asgF (w : World) : (ReflectliteType.relation "AssignableTo" ReflectliteType.assignableTo #[.agg #[.pointer (some ⟨1, 93, none⟩)], .iface 141 (.agg #[.pointer (some ⟨1, 93, none⟩)])]).run Tryd.prog w = .ok (.bool true) w := by kernel_rfl
theorem partsF4 (a : Addr) (w : World) : (ReflectliteValue.parts (.agg #[.pointer (some ⟨1, 93, none⟩), .pointer (some a), .int .u64 409])).run Tryd.prog w = .ok (some (93, a, 409)) w := by kernel_rfl
theorem partsF1 (a : Addr) (w : World) : (ReflectliteValue.parts (.agg #[.pointer (some ⟨1, 93, none⟩), .pointer (some a), .int .u64 153])).run Tryd.prog w = .ok (some (93, a, 153)) w := by kernel_rfl
theorem mkF (p : Addr) (w : World) : (ReflectliteValue.mk 93 p ReflectliteValue.flagAddr).run Tryd.prog w = .ok (.agg #[.pointer (some ⟨1, 93, none⟩), .pointer (some p), .int .u64 409]) w := by kernel_rfl
theorem elT (w : World) : (Rtype.elem? 96).run Tryd.prog w = .ok (some 93) w := by kernel_rfl
theorem dirF (w : World) : (Rtype.directlyAssignable 93 93).run Tryd.prog w = .ok true w := by kernel_rfl
theorem elF (a p : Addr) (W : World) (ha : W.cell? a = some (.pointer (some p))) :
    (ReflectliteValue.method (ReflectliteValue.valueError "reflectlite.Value.Elem" 0) ReflectliteValue.elem #[.agg #[.pointer (some ⟨1, 96, none⟩), .pointer (some a), .int .u64 150]]).run Tryd.prog W = .ok (.agg #[.pointer (some ⟨1, 93, none⟩), .pointer (some p), .int .u64 409]) W := by
  rw [rlm]
  simp only [Sem.run_bind, partsPF, Result.andThen]
  simp [ReflectliteValue.elem, loadVar, isAgg, underlying, Tryd.underlying96, ha, Result.andThen, elT, mkF]
theorem sizeF : (Tryd.prog.info? 93).map (fun i => i.size) = some 3 := by kernel_rfl
set_option maxRecDepth 100000 in
theorem setF (g b : Nat) (k l a x y z : Int) (W : World) (h0 : W.cell? ⟨b, 0, none⟩ = some (.int .i64 k)) (h1 : W.cell? ⟨b, 1, none⟩ = some (.int .i64 l)) (h2 : W.cell? ⟨b, 2, none⟩ = some (.int .i64 a))
    (hg : Blk W g 93 #[.int .i64 x, .int .i64 y, .int .i64 z]) :
    (ReflectliteValue.set #[.agg #[.pointer (some ⟨1, 93, none⟩), .pointer (some ⟨g, 0, none⟩), .int .u64 409], .agg #[.pointer (some ⟨1, 93, none⟩), .pointer (some ⟨b, 0, none⟩), .int .u64 153]]).run Tryd.prog W
      = .ok (.tuple #[]) (((W.setCell ⟨g, 0, none⟩ (.int .i64 k)).setCell ⟨g, 1, none⟩ (.int .i64 l)).setCell ⟨g, 2, none⟩ (.int .i64 a)) := by
  obtain ⟨i, hi, hs⟩ := Option.map_eq_some_iff.1 sizeF
  have c0 := hg.cell 0
  have f0 := hg.frozen 0
  have hg1 := hg.set_ 0 (.int .i64 k)
  have c1 := hg1.cell 1
  have f1 := hg1.frozen 1
  have hg2 := hg1.set_ 1 (.int .i64 l)
  have c2 := hg2.cell 2
  have f2 := hg2.frozen 2
  simp at c0 c1 c2
  have n0 : (⟨b, 0, none⟩ : Addr).add 0 = ⟨b, 0, none⟩ := rfl
  have hst : ∀ W' : World, W' = W → (loadVar 93 ⟨b, 0, none⟩).run Tryd.prog W' = .ok (.agg #[.int .i64 k, .int .i64 l, .int .i64 a]) W' := by
    rintro W' rfl
    simp [loadVar, isAgg, underlying, Tryd.underlying93, sizeOf, typeInfo, hi, hs, loadCells, loadCellsFrom, h0, h1, h2, Addr.add, Result.andThen]
  have e : ∀ u v : Value, ReflectliteValue.set #[u, v] = ReflectliteValue.set #[u, v] := fun _ _ => rfl
  conv at e =>
    enter [u, v, 1]
    delta ReflectliteValue.set
    whnf
  rw [← e]
  clear e
  have g0 : ∀ (u v : Value) h1 h2, (#[u, v] : Array Value).getLit 0 (n := 2) h1 h2 = u := fun _ _ _ _ => rfl
  have g1 : ∀ (u v : Value) h1 h2, (#[u, v] : Array Value).getLit 1 (n := 2) h1 h2 = v := fun _ _ _ _ => rfl
  simp only [g0, g1]
  show Sem.run Tryd.prog (_ >>= _) W = _
  simp only [Sem.run_bind, partsF4, partsF1, Result.andThen_ok]
  rw [if_neg (by decide)]
  simp only [Sem.run_bind, hst W rfl, dirF, Result.andThen_ok, if_true]
  simp [run_store_int, stored, storeVar, sizeOf, typeInfo, hi, hs, storeCells, Value.cells, c0, f0, c1, f1, c2, f2, Addr.add, Result.andThen]
set_option maxHeartbeats 4000000 in
set_option maxRecDepth 100000 in
/-- errors.as at a Fault: the target takes it. -/
theorem asF (g p : Nat) (k l a x y z : Int) (w : World) (hg : Blk w g 93 #[.int .i64 x, .int .i64 y, .int .i64 z]) (hp : w.cell? ⟨p, 0, none⟩ = some (.pointer (some ⟨g, 0, none⟩))) :
    Calls Tryd.prog 78 #[fault k l a, .iface 96 (.pointer (some ⟨g, 0, none⟩)), .agg #[.pointer (some ⟨1, 96, none⟩), .pointer (some ⟨p, 0, none⟩), .int .u64 150], .iface 141 (.agg #[.pointer (some ⟨1, 93, none⟩)])] w
      fun e w' => e = .returned (.bool true) ∧ Blk w' g 93 #[.int .i64 k, .int .i64 l, .int .i64 a] ∧ Keep (fun j => j = g) w w' := by
  unfold fault
  have h10 := @run_callFunc_extern Tryd.prog 85 _ ReflectliteType.typeOf Tryd.func85 (by kernel_rfl) (by kernel_rfl) (by kernel_rfl) (by kernel_rfl)
  have h35 := @run_callFunc_extern Tryd.prog 135 _ (ReflectliteType.relation "AssignableTo" ReflectliteType.assignableTo) Tryd.func135 (by kernel_rfl) (by kernel_rfl) (by kernel_rfl) (by kernel_rfl)
  have h36 := @run_callFunc_extern Tryd.prog 75 _ (fun args => ReflectliteValue.unpack (args.getD 0 (.tuple #[]))) Tryd.func75 (by kernel_rfl) (by kernel_rfl) (by kernel_rfl) (by kernel_rfl)
  have h37 := @run_callFunc_extern Tryd.prog 87 _ (ReflectliteValue.method (ReflectliteValue.valueError "reflectlite.Value.Elem" 0) ReflectliteValue.elem) Tryd.func87 (by kernel_rfl) (by kernel_rfl) (by kernel_rfl) (by kernel_rfl)
  have h38 := @run_callFunc_extern Tryd.prog 88 _ ReflectliteValue.set Tryd.func88 (by kernel_rfl) (by kernel_rfl) (by kernel_rfl) (by kernel_rfl)
  have tT := tF
  have mA := mAssignable
  have aF := asgF
  have vFF := vF k l a
  have hpl := World.block_lt_of_cell? w _ hp
  have e1 := elF ⟨p, 0, none⟩ ⟨g, 0, none⟩ (w.alloc (.cells #[.pointer (some ⟨1, 96, none⟩), .pointer (some ⟨p, 0, none⟩), .int .u64 150] 123)) (((Keep.refl (fun _ => False) w).alloc _).cell hp (fun h => h))
  have HG := Held.mk ((hg.alloc (.cells #[.pointer (some ⟨1, 96, none⟩), .pointer (some ⟨p, 0, none⟩), .int .u64 150] 123)).alloc (.cells #[.int .i64 k, .int .i64 l, .int .i64 a] 93))
  have HN := Held.mk (Blk.new (w.alloc (.cells #[.pointer (some ⟨1, 96, none⟩), .pointer (some ⟨p, 0, none⟩), .int .u64 150] 123)) 93 #[.int .i64 k, .int .i64 l, .int .i64 a])
  have s1 := setF g (w.heap.size + 1) k l a x y z ((w.alloc (.cells #[.pointer (some ⟨1, 96, none⟩), .pointer (some ⟨p, 0, none⟩), .int .u64 150] 123)).alloc (.cells #[.int .i64 k, .int .i64 l, .int .i64 a] 93))
    (by simp) (by simp) (by simp) HG.out
  go_enter Tryd.func78, Tryd.ntmps78
  go_wp2
  refine wp_loop_rounds 1 ?_
  rw [rounds_succ]
  go_wp2
  go_ret
  refine ⟨rfl, ?_, ?_⟩
  · have := ((HG.out.set_ 0 (.int .i64 k)).set_ 1 (.int .i64 l)).set_ 2 (.int .i64 a)
    simpa using this
  · exact (((((Keep.refl (fun j => j = g) w).alloc _).alloc _).setCell (p := ⟨g, 0, none⟩) (fun _ => rfl) _).setCell (p := ⟨g, 1, none⟩) (fun _ => rfl) _).setCell (p := ⟨g, 2, none⟩) (fun _ => rfl) _
set_option maxHeartbeats 4000000 in
set_option maxRecDepth 100000 in
theorem As_fault (g : Nat) (k l a x y z : Int) (w : World) (hB : Blk w g 93 #[.int .i64 x, .int .i64 y, .int .i64 z]) (hg : Laid w) : Calls Tryd.prog 56 #[fault k l a, .iface 96 (.pointer (some ⟨g, 0, none⟩))] w fun e w' => e = .returned (.bool true) ∧ Blk w' g 93 #[.int .i64 k, .int .i64 l, .int .i64 a] ∧ Keep (fun j => j = g) w w' := by
  have h6 := @run_callFunc_extern Tryd.prog 75 _ (fun args => ReflectliteValue.unpack (args.getD 0 (.tuple #[]))) Tryd.func75 (by kernel_rfl) (by kernel_rfl) (by kernel_rfl) (by kernel_rfl)
  have h7 := @run_callFunc_extern Tryd.prog 76 _ (ReflectliteValue.methodAny (ReflectliteValue.valueError "reflectlite.Value.Type" 0) (fun t _ _ _ => ReflectliteType.toType t)) Tryd.func76 (by kernel_rfl) (by kernel_rfl) (by kernel_rfl) (by kernel_rfl)
  have h8 := @run_callFunc_extern Tryd.prog 77 _ (ReflectliteValue.method (ReflectliteValue.valueError "reflectlite.Value.IsNil" 0) ReflectliteValue.isNil) Tryd.func77 (by kernel_rfl) (by kernel_rfl) (by kernel_rfl) (by kernel_rfl)
  have h27 := @run_callFunc_extern Tryd.prog 123 _ (ReflectliteType.abiMethod fun t => do pure (.int .u8 (← Rtype.kind t))) Tryd.func123 (by kernel_rfl) (by kernel_rfl) (by kernel_rfl) (by kernel_rfl)
  have h37 := @run_callFunc_extern Tryd.prog 137 _ (ReflectliteType.method ReflectliteType.elem) Tryd.func137 (by kernel_rfl) (by kernel_rfl) (by kernel_rfl) (by kernel_rfl)
  have h38 := @run_callFunc_extern Tryd.prog 138 _ (ReflectliteType.relation "Implements" ReflectliteType.implements_) Tryd.func138 (by kernel_rfl) (by kernel_rfl) (by kernel_rfl) (by kernel_rfl)
  have f6 := vPF
  have f7 := tyPF
  have mK := mKind
  have mE := mElem
  have mI := mImplements
  have k27 := kPF
  have k25 := kF
  have e27 := elPF
  have i25 := impF
  have n8 := isNilPF ⟨w.heap.size, 0, none⟩ ⟨g, 0, none⟩ ((w.alloc (.cells #[.pointer (some ⟨g, 0, none⟩)] 96)).alloc (.cells #[.pointer (some ⟨1, 96, none⟩), .pointer (some ⟨w.heap.size, 0, none⟩), .int .u64 150] 123)) (by simp)
  have hlt := hg.lt
  have HB : Held (Below w.heap.size w ((w.alloc (.cells #[.pointer (some ⟨g, 0, none⟩)] 96)).alloc (.cells #[.pointer (some ⟨1, 96, none⟩), .pointer (some ⟨w.heap.size, 0, none⟩), .int .u64 150] 123))) := ⟨((Below.refl _ _).alloc (Nat.le_refl _) _).alloc (by simp) _⟩
  have hg2 : ((w.alloc (.cells #[.pointer (some ⟨g, 0, none⟩)] 96)).alloc (.cells #[.pointer (some ⟨1, 96, none⟩), .pointer (some ⟨w.heap.size, 0, none⟩), .int .u64 150] 123)).cell? ⟨0, 0, none⟩ = some (.iface 141 (.agg #[.pointer (some ⟨1, 28, none⟩)])) := hg.below HB.out
  have HA := Held.mk (asF g w.heap.size k l a x y z ((w.alloc (.cells #[.pointer (some ⟨g, 0, none⟩)] 96)).alloc (.cells #[.pointer (some ⟨1, 96, none⟩), .pointer (some ⟨w.heap.size, 0, none⟩), .int .u64 150] 123)) ((hB.alloc _).alloc _) (by simp))
  unfold fault at HA ⊢
  have HK : Held (Keep (fun j => j = g) w ((w.alloc (.cells #[.pointer (some ⟨g, 0, none⟩)] 96)).alloc (.cells #[.pointer (some ⟨1, 96, none⟩), .pointer (some ⟨w.heap.size, 0, none⟩), .int .u64 150] 123))) := ⟨((Keep.refl _ w).alloc _).alloc _⟩
  go_enter Tryd.func56, Tryd.ntmps56
  go_wp2_with fail
  refine HA.out.mono ?_
  rintro e w1 ⟨rfl, hb1, hk1⟩
  have HB1 := Held.mk hb1
  have HK1 : Held (Keep (fun j => j = g) w w1) := ⟨HK.out.trans hk1⟩
  clear hb1 hk1
  go_wp2
  go_ret
  exact ⟨rfl, HB1.out, HK1.out⟩
set_option maxHeartbeats 4000000 in
set_option maxRecDepth 100000 in
theorem Place_fault (k l a : Int) (w : World) (hk1 : 1 ≤ k) (hk2 : k ≤ 24) (hg : Laid w) : Calls Tryd.prog 73 #[fault k l a] w fun e w' => e = .returned (.tuple #[.int .i64 l, .int .i64 a, .bool true]) ∧ Below w.heap.size w w' := by
  have HA := Held.mk (As_fault w.heap.size k l a 0 0 0 (w.alloc (.cells #[.int .i64 0, .int .i64 0, .int .i64 0] 93)) (Blk.new _ _ _) (hg.below ((Below.refl _ _).alloc (Nat.le_refl _) _)))
  have HNm := Held.mk (fun W => num_is 93 (.agg #[.int .i64 k, .int .i64 l, .int .i64 a]) k W (isNum_fault k l a) hk1 hk2)
  have HB0 : Held (Below w.heap.size w (w.alloc (.cells #[.int .i64 0, .int .i64 0, .int .i64 0] 93))) := ⟨(Below.refl _ _).alloc (Nat.le_refl _) _⟩
  clear hg
  unfold fault at HA ⊢
  go_enter Tryd.func73, Tryd.ntmps73
  go_wp2_with fail
  refine HA.out.mono ?_
  rintro e w1 ⟨rfl, hb1, hk1⟩
  have HB1 : Held (Below w.heap.size w w1) := ⟨((Keep.of_below HB0.out (fun _ => False)).then hk1 (fun i hi e => by omega)).to_below (fun _ _ h => h)⟩
  have c0 := hb1.cell 0
  have c1 := hb1.cell 1
  have c2 := hb1.cell 2
  simp at c0 c1 c2
  have hl := hb1.lt
  clear hb1 hk1 HA
  go_wp2_with fail
  go_region_held3 (fun w' => w'.cell? ⟨w.heap.size, 0, none⟩ = some (.int .i64 k) ∧ w'.cell? ⟨w.heap.size, 1, none⟩ = some (.int .i64 l) ∧ w'.cell? ⟨w.heap.size, 2, none⟩ = some (.int .i64 a)) (first | exact ⟨c0, c1, c2⟩ | exact ⟨d0, d1, d2⟩ | go_keep)
    (first
      | (go_at_call 55; refine (HNm.out _).mono ?_; rintro e w2 ⟨rfl, hb2⟩; have d0 := (Keep.of_below hb2 (fun _ => False)).cell (a := ⟨w.heap.size, 0, none⟩) (by exact c0) (fun h => h); have d1 := (Keep.of_below hb2 (fun _ => False)).cell (a := ⟨w.heap.size, 1, none⟩) (by exact c1) (fun h => h); have d2 := (Keep.of_below hb2 (fun _ => False)).cell (a := ⟨w.heap.size, 2, none⟩) (by exact c2) (fun h => h)))
  have HB2 : Held (Below w.heap.size w w2) := ⟨((Keep.of_below HB1.out (fun _ => False)).trans ((Keep.refl (fun _ => False) w1).drew.trans (Keep.of_below hb2 _))).to_below (fun _ _ h => h)⟩
  clear c0 c1 c2 hl hb2 d0 d1 d2 HB1
  go_wp2_with fail
  go_ret3
  exact ⟨rfl, HB2.out⟩
set_option maxHeartbeats 4000000 in
set_option maxRecDepth 100000 in
theorem At_fault (k l a : Int) (w : World) (hk1 : 1 ≤ k) (hk2 : k ≤ 24) (hg : Laid w) : Calls Tryd.prog 47 #[fault k l a, .int .i64 k, .int .i64 l, .int .i64 a] w fun e w' => e = .returned (.bool true) ∧ Below w.heap.size w w' := by
  have HP := Held.mk (Place_fault k l a w hk1 hk2 hg)
  have HNm := Held.mk (fun W => num_is 93 (.agg #[.int .i64 k, .int .i64 l, .int .i64 a]) k W (isNum_fault k l a) hk1 hk2)
  have hk0 : (k == 0) = false := beq_eq_false_iff_ne.2 (by omega)
  have e1 : (k == k) = true := by simp
  have e2 : (l == l) = true := by simp
  have e3 : (a == a) = true := by simp
  clear hg hk1 hk2
  unfold fault at HP ⊢
  go_enter Tryd.func47, Tryd.ntmps47
  go_wp2_with fail
  refine HP.out.mono ?_
  rintro e w1 ⟨rfl, hb1⟩
  have HB1 := Held.mk hb1
  clear hb1
  go_wp2_with fail
  refine (HNm.out w1).mono ?_
  rintro e w2 ⟨rfl, hb2⟩
  have HB2 : Held (Below w.heap.size w w2) := ⟨HB1.out.trans (hb2.mono HB1.out.size)⟩
  clear hb2
  go_wp2_with fail
  go_ret
  exact ⟨rfl, HB2.out⟩
end Err
end Go.Proofs.YtgmanmbicoofgaaDoor
