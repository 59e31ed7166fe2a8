/- append at a step of a region that draws its order. -/
import Derived.Test.YthkhemcbkcoliaaDoorMem
import Derived.Deep.RegionHeldLaw
import Derived.Test.YthkhemcbkcoliaaDoorWwr
namespace Go.Proofs.YthkhemcbkcoliaaDoor
set_option linter.unusedVariables false
set_option linter.unusedSimpArgs false
namespace Mem
open Go.RowKit
section
variable {P : Program} {ops : Array Oper} {o : Oper} {a : Act} {w : World} {K : Act → World → Prop} {Q : Exit → Act → World → Prop} {E : Prop}
/-- append(v, x...), at a step of a region that draws its order. -/
theorem stepS (base : Nat) (hgd : o.guard = none) (s x : Operand) (t e : TypeId) (z : Value) (size bytes : Nat)
    (ho : o.op = .call { callee := .builtin .append, args := #[s, x], argTypes := #[t, t] })
    (ht : P.underlying t = some (.slice e)) (hinfo : (P.info? e).map (fun i => (i.zero, i.size, i.bytes)) = some (some z, size, bytes)) (hzs : z.cells.size = size) (hsz : 0 < size) (hb0 : 0 < bytes)
    (v : Value) (n : Nat) (xs : List Value) (hs : a.eval s = v) (hown : w.ownsRow base e size v n xs)
    (ok : Nat → Prop) (A : Option Addr) (m c : Nat) (news : List Value) (hx : a.eval x = .slice A m c) (hr : RdV w ok size A m news) (h1 : ∀ u ∈ news, u.oneCell' = true)
    (hbytes : ((n + m) + (n + m) / 4 + 192) * bytes ≤ 281474976710656) (hbase : base ≤ w.heap.size)
    (h : ∀ v' w', w'.ownsRow base e size v' (n + m) (xs ++ news) → w.grownBy w' v.ownBlock → (v'.ownBlock = v.ownBlock ∨ ∃ b, v'.ownBlock = some b ∧ w.heap.size ≤ b) → K (a.put o.dst v') w') :
    if Region.wanted o (yielded ops a.tmps) = true then Oper.wp P o a w K Q else E := by
  have hw : Region.wanted o (yielded ops a.tmps) = true := by simp [Region.wanted, hgd]
  rw [if_pos hw]
  obtain ⟨i0, hi, hzz⟩ := Option.map_eq_some_iff.1 hinfo
  simp only [Prod.mk.injEq] at hzz
  obtain ⟨hz0, hz1, hz2⟩ := hzz
  have hlen : (n + m) + (n + m) / 4 + 192 ≤ 281474976710656 := Nat.le_trans (Nat.le_mul_of_pos_right _ hb0) hbytes
  obtain ⟨v', w', hrun, h2, h3, h4⟩ := run_append_any (P := P) w base t o.type e i0 z size bytes ht hi hz0 hz1 hz2 hzs hsz v n xs hown ok A m c news hr h1 (by simp only [maxLen]; omega) hbytes hbase
  unfold Oper.wp execOp
  simp only [ho, resolve, invoke, builtin, Sem.run_bind, Sem.run_pure, Result.andThen_ok, List.map_toArray, List.map_cons, List.map_nil, hs, hx, hrun]
  exact h v' w' h2 h3 h4
end
theorem own_slice_ {w : World} {base e size n : Nat} {v : Value} {xs : List Value} (h : w.ownsRow base e size v n xs) : ∃ A c, v = .slice A n c ∧ n ≤ c := by
  rcases h.2 with ⟨rfl, h0⟩ | ⟨g, cap, cur, rfl, _, _, hc, _⟩
  · subst h0
    exact ⟨none, 0, rfl, Nat.le_refl _⟩
  · exact ⟨_, cap, rfl, hc⟩
theorem one_one (x : Int) : ∀ u ∈ [Value.int .i64 x], u.oneCell' = true := by simp [Value.oneCell']
theorem two_one_ (x y : Int) : ∀ u ∈ [Value.int .i64 x, Value.int .i64 y], u.oneCell' = true := by simp [Value.oneCell']
end Mem
end Go.Proofs.YthkhemcbkcoliaaDoor

/- some: the numbers about the end of each form: walked. -/
namespace Go.Proofs.YthkhemcbkcoliaaDoor
set_option linter.unusedVariables false
set_option linter.unusedSimpArgs false
namespace Wire
open Go.RowKit Mem
def somes0 : List Int := [0, 1, 2, 246, 247, 248, 249, 255, 256, 300, 301, 65535, 65536, 65537, 9223372036854775807, 9223372036854775808, 9223372036854775809, 18446744073709551614, 18446744073709551615]
def somes (m : Nat) : List Int := somes0 ++ (List.range (m - 2)).flatMap fun j => [2 ^ (8 * (j + 2)) - 1, 2 ^ (8 * (j + 2))]
theorem info_u64 : (Tryd.prog.info? 22).map (fun i => (i.zero, i.size, i.bytes)) = some (some (.int .u64 0), 1, 8) := by kernel_rfl
theorem own_lit (W : World) (t n : Nat) (cs : List Value) (h : cs.length = n) (hn : n ≤ 1000) : (W.alloc (.cells cs.toArray t)).ownsRow W.heap.size t 1 (.slice (some ⟨W.heap.size, 0, none⟩) n n) n cs := by
  subst h
  exact ⟨by simp, .inr ⟨W.heap.size, cs.length, _, rfl, Nat.le_refl _, heap_alloc_new W _, Nat.le_refl _, by simp only [maxLen]; omega, by simp, by simp⟩⟩
theorem two_one_u (x y : Int) : ∀ u ∈ [Value.int .u64 x, Value.int .u64 y], u.oneCell' = true := by simp [Value.oneCell']
set_option maxHeartbeats 2000000 in
set_option maxRecDepth 100000 in
theorem some_any (w : World) : Calls Tryd.prog 58 #[] w fun e w' => ∃ v, e = .returned v ∧ OwnN w' w.heap.size 22 .u64 v (somes 8) ∧ Below w.heap.size w w' := by
  have HO : Held (OwnN (w.alloc (.cells (nums .u64 somes0).toArray 22)) w.heap.size 22 .u64 (.slice (some ⟨w.heap.size, 0, none⟩) 19 19) (somes 2)) := ⟨by
    have := own_lit w 22 19 (nums .u64 somes0) rfl (by omega)
    exact this⟩
  have HB : Held (Below w.heap.size w (w.alloc (.cells (nums .u64 somes0).toArray 22))) := ⟨(Below.refl _ _).alloc (Nat.le_refl _) _⟩
  have hc : (nums .u64 somes0).toArray = #[.int .u64 0, .int .u64 1, .int .u64 2, .int .u64 246, .int .u64 247, .int .u64 248, .int .u64 249, .int .u64 255, .int .u64 256, .int .u64 300, .int .u64 301, .int .u64 65535, .int .u64 65536, .int .u64 65537, .int .u64 9223372036854775807, .int .u64 9223372036854775808, .int .u64 9223372036854775809, .int .u64 18446744073709551614, .int .u64 18446744073709551615] := rfl
  rw [hc] at HO HB
  clear hc
  go_enter Tryd.func58, Tryd.ntmps58
  go_wp2_with fail
  go_loopw [1, 2] (fun v i wr => ∃ m : Nat, i = .int .i64 m ∧ 2 ≤ m ∧ m ≤ 8 ∧ Held (OwnN wr w.heap.size 22 .u64 v (somes m)) ∧ Held (Below w.heap.size w wr)) (fun _ i _ => 8 - (intOf i).toNat)
  case atStart => exact ⟨2, rfl, by omega, by omega, HO, HB⟩
  case round =>
    obtain ⟨m, rfl, hm1, hm2, HOm, HBm⟩ := hrel
    clear HO HB
    by_cases hlt : m < 8
    · have hc : m = 2 ∨ m = 3 ∨ m = 4 ∨ m = 5 ∨ m = 6 ∨ m = 7 := by omega
      obtain ⟨Ao, no, co, rfl, hno, _⟩ := HOm.out.slice
      have key : ∀ (W : World) (x y : Int), Held (RdV (wr.alloc (.cells #[.int .u64 x, .int .u64 y] 22)) (fun _ => True) 1 (some ⟨wr.heap.size, 0, none⟩) 2 [.int .u64 x, .int .u64 y]) := fun W x y => ⟨rfl, fun _ => ⟨_, rfl, trivial, World.news_of_block (cs := #[.int .u64 x, .int .u64 y]) (t := 22) (fr := (0, 0)) (heap_alloc_new _ _)⟩⟩
      have HL : Held (no = 19 + 2 * (m - 2)) := ⟨by rw [hno.out]; unfold somes; rw [List.length_append]; rcases hc with rfl | rfl | rfl | rfl | rfl | rfl <;> rfl⟩
      have HX : Held (∀ o, w.heap.size ≤ (wr.alloc o).heap.size) := ⟨fun o => by have := HBm.out.size; simp; omega⟩
      have HOw : Held (wr.ownsRow w.heap.size 22 1 (.slice Ao no co) no (nums .u64 (somes m))) := ⟨by rw [hno.out]; have := HOm.out; rw [hno.out] at this; exact this⟩
      rcases hc with rfl | rfl | rfl | rfl | rfl | rfl
      · have h1 : IntKind.i64.wrap 16 = 16 := by decide
        have h2 : ∀ W : World, (Op.shift BinOp.shl IntKind.u64 1 IntKind.i64 16).run Tryd.prog W = .ok (.int .u64 65536) W := fun W => by kernel_rfl
        have h3 : IntKind.u64.wrap 65535 = 65535 := by decide
        have HS : Held (somes (2 + 1) = somes 2 ++ [65535, 65536]) := ⟨by decide⟩
        have HLn : Held ((somes 2).length + 2 = (somes (2 + 1)).length) := ⟨by decide⟩
        go_wp2_with fail
        go_region_held_law (fun w' => True) (trivial)
          ((refine stepS w.heap.size rfl (.tmp 8) (.tmp 16) 95 22 (.int .u64 0) 1 8 rfl Tryd.underlying95 info_u64 rfl (by decide) (by decide) (.slice Ao no co) no (nums .u64 (somes 2)) rfl (by exact HOw.out.alloc _) (fun _ => True) (some ⟨wr.heap.size, 0, none⟩) 2 2 [.int .u64 65535, .int .u64 65536] rfl (by exact (key wr _ _).out) (two_one_u _ _) (by have := HL.out; omega) (by exact HX.out _) ?_; intro v2 w3 ho3 hg3 hat3))
        have HOn : Held (OwnN w3 w.heap.size 22 .u64 v2 (somes (2 + 1))) := ⟨by
          unfold OwnN
          rw [← HLn.out, HS.out, nums_append, ← hno.out]
          exact ho3⟩
        have hg3' : (wr.alloc (.cells #[.int .u64 65535, .int .u64 65536] 22)).grownBy w3 (Value.slice Ao no co).ownBlock := ⟨hg3.os, hg3.tape, hg3.output, hg3.size, hg3.block⟩
        have HBn : Held (Below w.heap.size w w3) := ⟨(((Keep.of_below HBm.out (fun _ => False)).alloc _).grown hg3' (fun j hj e => by have := own_ge HOw.out j e; omega)).to_below (fun _ _ h => h)⟩
        clear hg3 hg3' hat3 ho3 h1 h2 h3
        go_wp2_with fail
        go_roundw
        case rel => exact ⟨2 + 1, by rfl, by omega, by omega, HOn, HBn⟩
        case measure => simp [intOf]
      · have h1 : IntKind.i64.wrap 24 = 24 := by decide
        have h2 : ∀ W : World, (Op.shift BinOp.shl IntKind.u64 1 IntKind.i64 24).run Tryd.prog W = .ok (.int .u64 16777216) W := fun W => by kernel_rfl
        have h3 : IntKind.u64.wrap 16777215 = 16777215 := by decide
        have HS : Held (somes (3 + 1) = somes 3 ++ [16777215, 16777216]) := ⟨by decide⟩
        have HLn : Held ((somes 3).length + 2 = (somes (3 + 1)).length) := ⟨by decide⟩
        go_wp2_with fail
        go_region_held_law (fun w' => True) (trivial)
          ((refine stepS w.heap.size rfl (.tmp 8) (.tmp 16) 95 22 (.int .u64 0) 1 8 rfl Tryd.underlying95 info_u64 rfl (by decide) (by decide) (.slice Ao no co) no (nums .u64 (somes 3)) rfl (by exact HOw.out.alloc _) (fun _ => True) (some ⟨wr.heap.size, 0, none⟩) 2 2 [.int .u64 16777215, .int .u64 16777216] rfl (by exact (key wr _ _).out) (two_one_u _ _) (by have := HL.out; omega) (by exact HX.out _) ?_; intro v2 w3 ho3 hg3 hat3))
        have HOn : Held (OwnN w3 w.heap.size 22 .u64 v2 (somes (3 + 1))) := ⟨by
          unfold OwnN
          rw [← HLn.out, HS.out, nums_append, ← hno.out]
          exact ho3⟩
        have hg3' : (wr.alloc (.cells #[.int .u64 16777215, .int .u64 16777216] 22)).grownBy w3 (Value.slice Ao no co).ownBlock := ⟨hg3.os, hg3.tape, hg3.output, hg3.size, hg3.block⟩
        have HBn : Held (Below w.heap.size w w3) := ⟨(((Keep.of_below HBm.out (fun _ => False)).alloc _).grown hg3' (fun j hj e => by have := own_ge HOw.out j e; omega)).to_below (fun _ _ h => h)⟩
        clear hg3 hg3' hat3 ho3 h1 h2 h3
        go_wp2_with fail
        go_roundw
        case rel => exact ⟨3 + 1, by rfl, by omega, by omega, HOn, HBn⟩
        case measure => simp [intOf]
      · have h1 : IntKind.i64.wrap 32 = 32 := by decide
        have h2 : ∀ W : World, (Op.shift BinOp.shl IntKind.u64 1 IntKind.i64 32).run Tryd.prog W = .ok (.int .u64 4294967296) W := fun W => by kernel_rfl
        have h3 : IntKind.u64.wrap 4294967295 = 4294967295 := by decide
        have HS : Held (somes (4 + 1) = somes 4 ++ [4294967295, 4294967296]) := ⟨by decide⟩
        have HLn : Held ((somes 4).length + 2 = (somes (4 + 1)).length) := ⟨by decide⟩
        go_wp2_with fail
        go_region_held_law (fun w' => True) (trivial)
          ((refine stepS w.heap.size rfl (.tmp 8) (.tmp 16) 95 22 (.int .u64 0) 1 8 rfl Tryd.underlying95 info_u64 rfl (by decide) (by decide) (.slice Ao no co) no (nums .u64 (somes 4)) rfl (by exact HOw.out.alloc _) (fun _ => True) (some ⟨wr.heap.size, 0, none⟩) 2 2 [.int .u64 4294967295, .int .u64 4294967296] rfl (by exact (key wr _ _).out) (two_one_u _ _) (by have := HL.out; omega) (by exact HX.out _) ?_; intro v2 w3 ho3 hg3 hat3))
        have HOn : Held (OwnN w3 w.heap.size 22 .u64 v2 (somes (4 + 1))) := ⟨by
          unfold OwnN
          rw [← HLn.out, HS.out, nums_append, ← hno.out]
          exact ho3⟩
        have hg3' : (wr.alloc (.cells #[.int .u64 4294967295, .int .u64 4294967296] 22)).grownBy w3 (Value.slice Ao no co).ownBlock := ⟨hg3.os, hg3.tape, hg3.output, hg3.size, hg3.block⟩
        have HBn : Held (Below w.heap.size w w3) := ⟨(((Keep.of_below HBm.out (fun _ => False)).alloc _).grown hg3' (fun j hj e => by have := own_ge HOw.out j e; omega)).to_below (fun _ _ h => h)⟩
        clear hg3 hg3' hat3 ho3 h1 h2 h3
        go_wp2_with fail
        go_roundw
        case rel => exact ⟨4 + 1, by rfl, by omega, by omega, HOn, HBn⟩
        case measure => simp [intOf]
      · have h1 : IntKind.i64.wrap 40 = 40 := by decide
        have h2 : ∀ W : World, (Op.shift BinOp.shl IntKind.u64 1 IntKind.i64 40).run Tryd.prog W = .ok (.int .u64 1099511627776) W := fun W => by kernel_rfl
        have h3 : IntKind.u64.wrap 1099511627775 = 1099511627775 := by decide
        have HS : Held (somes (5 + 1) = somes 5 ++ [1099511627775, 1099511627776]) := ⟨by decide⟩
        have HLn : Held ((somes 5).length + 2 = (somes (5 + 1)).length) := ⟨by decide⟩
        go_wp2_with fail
        go_region_held_law (fun w' => True) (trivial)
          ((refine stepS w.heap.size rfl (.tmp 8) (.tmp 16) 95 22 (.int .u64 0) 1 8 rfl Tryd.underlying95 info_u64 rfl (by decide) (by decide) (.slice Ao no co) no (nums .u64 (somes 5)) rfl (by exact HOw.out.alloc _) (fun _ => True) (some ⟨wr.heap.size, 0, none⟩) 2 2 [.int .u64 1099511627775, .int .u64 1099511627776] rfl (by exact (key wr _ _).out) (two_one_u _ _) (by have := HL.out; omega) (by exact HX.out _) ?_; intro v2 w3 ho3 hg3 hat3))
        have HOn : Held (OwnN w3 w.heap.size 22 .u64 v2 (somes (5 + 1))) := ⟨by
          unfold OwnN
          rw [← HLn.out, HS.out, nums_append, ← hno.out]
          exact ho3⟩
        have hg3' : (wr.alloc (.cells #[.int .u64 1099511627775, .int .u64 1099511627776] 22)).grownBy w3 (Value.slice Ao no co).ownBlock := ⟨hg3.os, hg3.tape, hg3.output, hg3.size, hg3.block⟩
        have HBn : Held (Below w.heap.size w w3) := ⟨(((Keep.of_below HBm.out (fun _ => False)).alloc _).grown hg3' (fun j hj e => by have := own_ge HOw.out j e; omega)).to_below (fun _ _ h => h)⟩
        clear hg3 hg3' hat3 ho3 h1 h2 h3
        go_wp2_with fail
        go_roundw
        case rel => exact ⟨5 + 1, by rfl, by omega, by omega, HOn, HBn⟩
        case measure => simp [intOf]
      · have h1 : IntKind.i64.wrap 48 = 48 := by decide
        have h2 : ∀ W : World, (Op.shift BinOp.shl IntKind.u64 1 IntKind.i64 48).run Tryd.prog W = .ok (.int .u64 281474976710656) W := fun W => by kernel_rfl
        have h3 : IntKind.u64.wrap 281474976710655 = 281474976710655 := by decide
        have HS : Held (somes (6 + 1) = somes 6 ++ [281474976710655, 281474976710656]) := ⟨by decide⟩
        have HLn : Held ((somes 6).length + 2 = (somes (6 + 1)).length) := ⟨by decide⟩
        go_wp2_with fail
        go_region_held_law (fun w' => True) (trivial)
          ((refine stepS w.heap.size rfl (.tmp 8) (.tmp 16) 95 22 (.int .u64 0) 1 8 rfl Tryd.underlying95 info_u64 rfl (by decide) (by decide) (.slice Ao no co) no (nums .u64 (somes 6)) rfl (by exact HOw.out.alloc _) (fun _ => True) (some ⟨wr.heap.size, 0, none⟩) 2 2 [.int .u64 281474976710655, .int .u64 281474976710656] rfl (by exact (key wr _ _).out) (two_one_u _ _) (by have := HL.out; omega) (by exact HX.out _) ?_; intro v2 w3 ho3 hg3 hat3))
        have HOn : Held (OwnN w3 w.heap.size 22 .u64 v2 (somes (6 + 1))) := ⟨by
          unfold OwnN
          rw [← HLn.out, HS.out, nums_append, ← hno.out]
          exact ho3⟩
        have hg3' : (wr.alloc (.cells #[.int .u64 281474976710655, .int .u64 281474976710656] 22)).grownBy w3 (Value.slice Ao no co).ownBlock := ⟨hg3.os, hg3.tape, hg3.output, hg3.size, hg3.block⟩
        have HBn : Held (Below w.heap.size w w3) := ⟨(((Keep.of_below HBm.out (fun _ => False)).alloc _).grown hg3' (fun j hj e => by have := own_ge HOw.out j e; omega)).to_below (fun _ _ h => h)⟩
        clear hg3 hg3' hat3 ho3 h1 h2 h3
        go_wp2_with fail
        go_roundw
        case rel => exact ⟨6 + 1, by rfl, by omega, by omega, HOn, HBn⟩
        case measure => simp [intOf]
      · have h1 : IntKind.i64.wrap 56 = 56 := by decide
        have h2 : ∀ W : World, (Op.shift BinOp.shl IntKind.u64 1 IntKind.i64 56).run Tryd.prog W = .ok (.int .u64 72057594037927936) W := fun W => by kernel_rfl
        have h3 : IntKind.u64.wrap 72057594037927935 = 72057594037927935 := by decide
        have HS : Held (somes (7 + 1) = somes 7 ++ [72057594037927935, 72057594037927936]) := ⟨by decide⟩
        have HLn : Held ((somes 7).length + 2 = (somes (7 + 1)).length) := ⟨by decide⟩
        go_wp2_with fail
        go_region_held_law (fun w' => True) (trivial)
          ((refine stepS w.heap.size rfl (.tmp 8) (.tmp 16) 95 22 (.int .u64 0) 1 8 rfl Tryd.underlying95 info_u64 rfl (by decide) (by decide) (.slice Ao no co) no (nums .u64 (somes 7)) rfl (by exact HOw.out.alloc _) (fun _ => True) (some ⟨wr.heap.size, 0, none⟩) 2 2 [.int .u64 72057594037927935, .int .u64 72057594037927936] rfl (by exact (key wr _ _).out) (two_one_u _ _) (by have := HL.out; omega) (by exact HX.out _) ?_; intro v2 w3 ho3 hg3 hat3))
        have HOn : Held (OwnN w3 w.heap.size 22 .u64 v2 (somes (7 + 1))) := ⟨by
          unfold OwnN
          rw [← HLn.out, HS.out, nums_append, ← hno.out]
          exact ho3⟩
        have hg3' : (wr.alloc (.cells #[.int .u64 72057594037927935, .int .u64 72057594037927936] 22)).grownBy w3 (Value.slice Ao no co).ownBlock := ⟨hg3.os, hg3.tape, hg3.output, hg3.size, hg3.block⟩
        have HBn : Held (Below w.heap.size w w3) := ⟨(((Keep.of_below HBm.out (fun _ => False)).alloc _).grown hg3' (fun j hj e => by have := own_ge HOw.out j e; omega)).to_below (fun _ _ h => h)⟩
        clear hg3 hg3' hat3 ho3 h1 h2 h3
        go_wp2_with fail
        go_roundw
        case rel => exact ⟨7 + 1, by rfl, by omega, by omega, HOn, HBn⟩
        case measure => simp [intOf]
    · obtain rfl : m = 8 := by omega
      go_wp2_with fail
      go_ret
      exact ⟨_, rfl, HOm.out, HBm.out⟩
end Wire
end Go.Proofs.YthkhemcbkcoliaaDoor
