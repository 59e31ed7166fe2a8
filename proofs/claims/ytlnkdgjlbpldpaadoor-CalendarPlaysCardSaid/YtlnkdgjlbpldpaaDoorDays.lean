/- The law's Days by value, opened. -/
import Derived.Test.YtlnkdgjlbpldpaaDoorRow
import Derived.Test.YtlnkdgjlbpldpaaDoorOpen
namespace Go.Proofs.YtlnkdgjlbpldpaaDoor
set_option linter.unusedVariables false
namespace Law
open Go.ChangeShapes Go.WideShapes Go.ChangeAt Go.RowKit Mem
theorem array8 {α : Type} {cs : Array α} (h : cs.size = 8) : ∃ c0 c1 c2 c3 c4 c5 c6 c7, cs = #[c0, c1, c2, c3, c4, c5, c6, c7] := by
  obtain ⟨l⟩ := cs
  match l, h with
  | [c0, c1, c2, c3, c4, c5, c6, c7], _ => exact ⟨c0, c1, c2, c3, c4, c5, c6, c7, rfl⟩
section
variable {H : Type} {enc : TypeId × Value → H} {P : Program} {W : World} {r : Reach} {b0 : Nat} {t ta ts te tb : TypeId} {f0 f1 : Field} {v : Value} {d : DataW H} {p : List MemPlace} {tl : List TypeId} {ds : List (DataW H)} {j : Nat}
theorem open_days (hs : P.underlying t = some (.struct #[f0, f1])) (hC : P.cellsOf t = 8) (o0 : f0.offset = 0) (o1 : f1.offset = 7) (k0 : P.cellsOf f0.type = 7) (k1 : P.cellsOf f1.type = 1)
    (ha : P.underlying f0.type = some (.array 7 tb)) (hb : P.underlying tb = some .bool) (hcb : P.cellsOf tb = 1) (hsl : P.underlying f1.type = some (.slice te)) (hte : P.underlying te = some (.int .i64)) (hce : P.cellsOf te = 1) (hbe : P.bytesOf te = 8)
    (hv : Value.okWide P W r b0 t v) (h : DataW.Trod enc P W 0 (fun _ => true) true t v d p) (hlt : ∀ x ∈ p, x.block < W.heap.size)
    (hsz : (DataW.weightsEach P tl ds).all (· ≤ reachBytes) = true) (htj : tl[j]? = some t) (hdj : ds[j]? = some d) :
    ∃ (c0 c1 c2 c3 c4 c5 c6 : Bool) (A : Option Addr) (n c : Nat) (xs : List Int), v = .agg #[.bool c0, .bool c1, .bool c2, .bool c3, .bool c4, .bool c5, .bool c6, .slice A n c] ∧ RdN W (fun k => k < W.heap.size) .i64 A n xs ∧ (∀ x ∈ xs, (Lit.int .i64 x).wf = true) ∧ n ≤ 17592186043904 := by
  obtain ⟨cs, rfl, hcs⟩ := okWide_struct hs hv
  obtain ⟨a0, a1, a2, a3, a4, a5, a6, a7, rfl⟩ := array8 (hcs.trans hC)
  obtain ⟨fuel, hf⟩ := h
  obtain ⟨y0, y1, n, hx, _, h0, h1⟩ := trod_struct2 hs hf
  simp only [Value.cells, o0, o1, k0, k1] at h0 h1
  simp at h0 h1
  obtain ⟨xs, m, _, rfl, _, hl, hel⟩ := DataW.trod_array ha h0
  simp only [hcb] at hel
  have e0 := hel 0 (by omega)
  have e1 := hel 1 (by omega)
  have e2 := hel 2 (by omega)
  have e3 := hel 3 (by omega)
  have e4 := hel 4 (by omega)
  have e5 := hel 5 (by omega)
  have e6 := hel 6 (by omega)
  match xs, hl with
  | [z0, z1, z2, z3, z4, z5, z6], _ =>
    simp at e0 e1 e2 e3 e4 e5 e6
    obtain ⟨c0, r0, _⟩ := DataW.trod_bool hb e0
    obtain ⟨c1, r1, _⟩ := DataW.trod_bool hb e1
    obtain ⟨c2, r2, _⟩ := DataW.trod_bool hb e2
    obtain ⟨c3, r3, _⟩ := DataW.trod_bool hb e3
    obtain ⟨c4, r4, _⟩ := DataW.trod_bool hb e4
    obtain ⟨c5, r5, _⟩ := DataW.trod_bool hb e5
    obtain ⟨c6, r6, _⟩ := DataW.trod_bool hb e6
    simp at r0 r1 r2 r3 r4 r5 r6
    subst r0 r1 r2 r3 r4 r5 r6
    simp only [Prod.mk.injEq] at hx
    obtain ⟨rfl, rfl⟩ := hx
    have hw : ∀ m ∈ y1.1.weights P f1.type, m ≤ reachBytes := fun m hm => by
      have := List.all_eq_true.1 hsz m (DataW.weights_mem_each htj hdj m (by simp [DataW.weights, hs, DataW.weightsEach, hm]))
      simpa using this
    have hsz' : (DataW.weightsEach P [f1.type] [y1.1]).all (· ≤ reachBytes) = true := by
      simp only [DataW.weightsEach, List.append_nil]
      exact List.all_eq_true.2 (fun m hm => by simpa using hw m hm)
    have hlt' : ∀ x ∈ y1.2, x.block < W.heap.size := fun x hx => hlt x (by simp [hx])
    rcases open_ints hsl hte hce h1 with ⟨hcs, hx⟩ | ⟨a, len, cap, zs, hcs, _, hl, hm, hz, hx, hcell, hwz⟩
    · simp at hcs
      subst hcs
      exact ⟨c0, c1, c2, c3, c4, c5, c6, none, 0, 0, [], rfl, ⟨by simp [nums], fun h => absurd h (by omega)⟩, by simp, by simp⟩
    · simp at hcs
      subst hcs
      subst hx
      simp only [if_true] at hz
      have hreach := sized_slice hsz' (j := 0) rfl rfl hsl
      rw [hbe] at hreach
      simp only [lits, List.length_map, List.length_take, List.length_drop, reachBytes] at hreach
      have e1 : min len zs.length + (zs.length - len) = zs.length := by omega
      rw [e1, hz] at hreach
      refine ⟨c0, c1, c2, c3, c4, c5, c6, some a, len, cap, zs.take len, rfl, ⟨by simp [nums]; omega, fun hp => ⟨a, rfl, ?_, fun j u hu => ?_⟩⟩, fun x hx => hwz x (List.mem_of_mem_take hx), by omega⟩
      · obtain ⟨b, off, spot⟩ := a
        have hspot : spot = none := by simpa [Addr.add] using World.cell?_spot (hcell 0 (by omega))
        subst hspot
        exact hlt' (.cell b off) (MemPlace.mem_row.2 ⟨0, by omega, by simp⟩)
      · simp only [nums, List.getElem?_map, Option.map_eq_some_iff] at hu
        obtain ⟨y, hy, rfl⟩ := hu
        rw [List.getElem?_take] at hy
        split at hy
        · rename_i hjl
          rw [hcell j (by omega), List.getD_eq_getElem?_getD, hy]; rfl
        · cases hy
end
end Law
end Go.Proofs.YtlnkdgjlbpldpaaDoor
