/- WireWrites, for rows of numbers behind which the first writer tells once: the walk. -/
import Derived.Test.YthkhemcbkcoliaaDoorLad
import Derived.Test.YthkhemcbkcoliaaDoorPik
import Derived.Test.YthkhemcbkcoliaaDoorWorks
import Derived.Test.YthkhemcbkcoliaaDoorWfs
import Derived.Test.YthkhemcbkcoliaaDoorWLast
namespace Go.Proofs.YthkhemcbkcoliaaDoor
set_option linter.unusedVariables false
set_option linter.unusedSimpArgs false
namespace Wire
open Go.RowKit Mem Apn Aps Go.Proofs.YthkhemcbkcoliaaDoorW.PrintLast
/-- A row of calls of the first writer: numbers, and then Done. -/
structure Plainly (ps : List Put) (n : Nat) : Prop where
  len : n = ps.length
  one : 1 ≤ n
  few : n ≤ 1000
  good : ∀ p ∈ ps, p.Good
  on : ∀ p ∈ ps, p.on = 0
  s : ∀ p ∈ ps, p.s.size = 0
  kind : ∀ k, (h : k + 1 < n) → (ps.getD k ⟨0, 9, 0, ⟨#[]⟩⟩).kind = 0 ∨ (ps.getD k ⟨0, 9, 0, ⟨#[]⟩⟩).kind = 1
  kinds : ∀ p ∈ ps, p.kind ≠ 2
  last : (ps.getD (n - 1) ⟨0, 9, 0, ⟨#[]⟩⟩).kind = 9
def allLaid (ps : List Put) : List Int := ps.flatMap laid
theorem laid_short (p : Put) (hp : p.Good) (hk : p.kind ≠ 2) : (laid p).length ≤ 9 := by
  unfold laid
  have h1 := form_length p.x hp.x
  have h2 := form_length _ (zig_U64 (toI_I64 p.x))
  split
  · omega
  · split
    · omega
    · simp
theorem allLaid_short : ∀ ps : List Put, (∀ p ∈ ps, p.Good) → (∀ p ∈ ps, p.kind ≠ 2) → (allLaid ps).length ≤ 9 * ps.length
  | [], _, _ => by simp [allLaid]
  | p :: ps, h, h2 => by
    have ih := allLaid_short ps (fun q hq => h q (List.mem_cons_of_mem _ hq)) (fun q hq => h2 q (List.mem_cons_of_mem _ hq))
    have := laid_short p (h p List.mem_cons_self) (h2 p List.mem_cons_self)
    unfold allLaid at *
    rw [List.flatMap_cons, List.length_append, List.length_cons]
    omega
set_option maxHeartbeats 4000000 in
set_option maxRecDepth 100000 in
theorem writes_any (A : Option Addr) (n c : Nat) (ps : List Put) (w : World) (hp : Plainly ps n) (hr : RdPut w (fun k => k < w.heap.size) A ps) :
    Calls Tryd.prog 59 #[.slice A n c] w fun e w' => e = .returned (.bool true) ∧ Below w.heap.size w w' := by
  have HP := Held.mk hp
  have HR := Held.mk hr
  have hn1 := hp.few
  clear hp hr
  go_enter Tryd.func59, Tryd.ntmps59
  go_wp2_with fail
  refine (newWriter_any w).mono ?_
  rintro e w1 ⟨rfl, hw1, hb1⟩
  have HW1 := Held.mk hw1
  have HB1 := Held.mk hb1
  have HL1 : Held (w.heap.size < w1.heap.size) := ⟨hw1.blk.lt⟩
  clear hw1 hb1
  go_wp2_with fail
  refine (newWriter_any w1).mono ?_
  rintro e w2 ⟨rfl, hw2, hb2⟩
  have HW2 := Held.mk hw2
  have HB2 : Held (Below w.heap.size w w2) := ⟨HB1.out.trans (hb2.mono HB1.out.size)⟩
  have HW12 := Held.mk (HW1.out.keep (Keep.of_below hb2 (fun _ => False)) (fun h => h) (fun _ _ h => h))
  have HL2 : Held (w1.heap.size < w2.heap.size) := ⟨hw2.blk.lt⟩
  clear hw2 hb2 HW1 HB1
  generalize hB0 : w.heap.size = B0 at *
  generalize hB1 : w1.heap.size = B1 at *
  have HX1 := Held.mk ((HW12.out.keep ((Keep.refl (fun _ => False) w2).alloc (.cells #[.pointer (some ⟨B0, 0, none⟩), .pointer (some ⟨B1, 0, none⟩)] 123)) (fun h => h) (fun _ _ h => h)))
  have HX2 := Held.mk ((HW2.out.keep ((Keep.refl (fun _ => False) w2).alloc (.cells #[.pointer (some ⟨B0, 0, none⟩), .pointer (some ⟨B1, 0, none⟩)] 123)) (fun h => h) (fun _ _ h => h)))
  have HXP := Held.mk (Blk.new w2 123 #[.pointer (some ⟨B0, 0, none⟩), .pointer (some ⟨B1, 0, none⟩)])
  have HXB : Held (Below B0 w (w2.alloc (.cells #[.pointer (some ⟨B0, 0, none⟩), .pointer (some ⟨B1, 0, none⟩)] 123))) := ⟨HB2.out.alloc (by have := HB2.out.size; omega) _⟩
  go_wp2_with fail
  refine (works_any _).mono ?_
  rintro e w3 ⟨rfl, hb3⟩
  have HY1 := Held.mk (HX1.out.keep (Keep.of_below hb3 (fun _ => False)) (fun h => h) (fun _ _ h => h))
  have HY2 := Held.mk (HX2.out.keep (Keep.of_below hb3 (fun _ => False)) (fun h => h) (fun _ _ h => h))
  have HYP := Held.mk (HXP.out.keep (Keep.of_below hb3 (fun _ => False)) (fun h => h))
  have HYB : Held (Below B0 w w3) := ⟨HXB.out.trans (hb3.mono (by have := HXB.out.size; omega))⟩
  have HYs : Held (w2.heap.size < w3.heap.size) := ⟨by have := hb3.size; simp at this; omega⟩
  clear HX1 HX2 HXP HXB HW12 HW2 hb3
  go_wp2_with fail
  refine (vast_no A n c ps _ w3 HP.out.len (by omega) (RdV.keep HR.out (Keep.of_below (hB0.symm ▸ HYB.out) (fun _ => False)) (fun _ _ h => h)) HP.out.s).mono ?_
  rintro e w4 ⟨rfl, rfl⟩
  generalize hPP : w2.heap.size = P at *
  have HZ1 := Held.mk (HY1.out.keep ((Keep.refl (fun _ => False) w4).alloc (.cells #[.slice none 0 0, .slice none 0 0] 124)) (fun h => h) (fun _ _ h => h))
  have HZ2 := Held.mk (HY2.out.keep ((Keep.refl (fun _ => False) w4).alloc (.cells #[.slice none 0 0, .slice none 0 0] 124)) (fun h => h) (fun _ _ h => h))
  have HZP := Held.mk (HYP.out.keep ((Keep.refl (fun _ => False) w4).alloc (.cells #[.slice none 0 0, .slice none 0 0] 124)) (fun h => h))
  have HZQ := Held.mk (Blk.new w4 124 #[.slice none 0 0, .slice none 0 0])
  have HZB : Held (Below B0 w (w4.alloc (.cells #[.slice none 0 0, .slice none 0 0] 124))) := ⟨HYB.out.alloc (by have := HYB.out.size; omega) _⟩
  have HZs : Held (w4.heap.size < (w4.alloc (.cells #[.slice none 0 0, .slice none 0 0] 124)).heap.size) := ⟨by simp⟩
  clear HY1 HY2 HYP HYB
  go_wp2_with fail
  generalize w4.alloc (.cells #[.slice none 0 0, .slice none 0 0] 124) = w5 at *
  generalize hQ : w4.heap.size = Q at *
  go_loopw [5, 6] (fun t i W => ∃ (k : Nat) (v0 vq : Value), i = .int .i64 k ∧ k ≤ n ∧ Held (Wr W B0 B0 v0 (allLaid (ps.take k))) ∧ Held (Wr W B1 B1 (.slice none 0 0) []) ∧ Held (Blk W P 123 #[.pointer (some ⟨B0, 0, none⟩), .pointer (some ⟨B1, 0, none⟩)]) ∧ Held (Blk W Q 124 #[vq, .slice none 0 0]) ∧ Held (OwnN W (Q + 1) 5 .u8 vq (allLaid (ps.take k)))
    ∧ Held (∀ b, v0.ownBlock = some b → Q + 1 ≤ b ∧ vq.ownBlock ≠ some b) ∧ Held (Below B0 w W) ∧ Held (Q + 1 ≤ W.heap.size)
    ∧ ((k < n ∧ t = .slice none 0 0) ∨ (k = n ∧ ∃ (va vb : Value) (R1 R2 : Nat), Held (W.ownsRow (Q + 1) 23 1 t 2 [va, vb]) ∧ Held (OwnN W R1 5 .u8 va (allLaid ps)) ∧ Held (OwnN W R2 5 .u8 vb (allLaid ps)) ∧ Held (Q + 1 ≤ R1 ∧ Q + 1 ≤ R2 ∧ ∀ b, va.ownBlock = some b → b < R2 ∧ v0.ownBlock ≠ some b ∧ vq.ownBlock ≠ some b) ∧ Held (∀ b, vb.ownBlock = some b → v0.ownBlock ≠ some b ∧ vq.ownBlock ≠ some b)))) (fun _ i _ => n - (intOf i).toNat)
  case atStart => exact ⟨0, .slice none 0 0, .slice none 0 0, rfl, Nat.zero_le _, HZ1, HZ2, HZP, HZQ, ⟨own_nil _ _ _ _⟩, ⟨fun b h => by simp [Value.ownBlock] at h⟩, HZB, ⟨by have := HZs.out; omega⟩, .inl ⟨by have := HP.out.one; omega, rfl⟩⟩
  case round =>
    obtain ⟨k, v0, vq, rfl, hk, HW0, HWb, HPk, HQk, HOq, HNe, HBk, HSk, hT⟩ := hrel
    clear HZ1 HZ2 HZP HZQ HZB HZs
    by_cases hlt : k < n
    · obtain ⟨_, rfl⟩ : k < n ∧ _ := hT.resolve_right (fun h => absurd h.1 (by omega))
      clear hT
      have hkp : k < ps.length := by have := HP.out.len; omega
      have HRk := Held.mk (RdV.keep HR.out (Keep.of_below (hB0.symm ▸ HBk.out) (fun _ => False)) (fun _ _ h => h))
      obtain ⟨ad, rfl, _, c0, c1, c2, c3⟩ := (show RdPut wr _ A ps from HRk.out).at_ hkp
      have hmem := List.getElem_mem hkp
      have hon := HP.out.on ps[k] hmem
      have HGd := Held.mk (HP.out.good ps[k] hmem)
      have HSz := Held.mk (HP.out.s ps[k] hmem)
      have HLs : Held (allLaid (ps.take (k + 1)) = allLaid (ps.take k) ++ laid ps[k]) := ⟨by unfold allLaid; rw [List.take_succ_eq_append_getElem hkp, List.flatMap_append]; simp⟩
      have HLl : Held ((allLaid (ps.take k)).length ≤ 9 * k) := ⟨by
        have := allLaid_short (ps.take k) (fun p hp => HP.out.good p (List.mem_of_mem_take hp)) (fun p hp => HP.out.kinds p (List.mem_of_mem_take hp))
        have h2 := List.length_take_le k ps
        omega⟩
      have hkd : ((ps[k].kind = 0 ∨ ps[k].kind = 1) ∧ k + 1 < n) ∨ (ps[k].kind = 9 ∧ k + 1 = n) := by
        have hg : ps.getD k ⟨0, 9, 0, ⟨#[]⟩⟩ = ps[k] := by rw [List.getD_eq_getElem?_getD, List.getElem?_eq_getElem hkp]; rfl
        by_cases h1 : k + 1 < n
        · have := HP.out.kind k h1
          rw [hg] at this
          exact .inl ⟨this, h1⟩
        · have h2 := HP.out.last
          rw [show n - 1 = k from by omega, hg] at h2
          exact .inr ⟨h2, by omega⟩
      have HKd : Held (ps[k].kind ≠ 2) := ⟨by rcases hkd with ⟨h | h, _⟩ | ⟨h, _⟩ <;> omega⟩
      rw [hon] at c0
      generalize hpk : ps[k] = p at *
      obtain ⟨pon, kd, x, st⟩ := p
      simp only at hon c0 c1 c2 c3 hkd
      subst hon
      have HTb := Held.mk (Blk.new wr 98 #[.int .i64 0, .int .i64 kd, .int .u64 (x : Int), .string st])
      have hk6 := (Keep.refl (fun _ => False) wr).alloc (.cells #[.int .i64 0, .int .i64 kd, .int .u64 (x : Int), .string st] 98)
      have HW6 := Held.mk (HW0.out.keep hk6 (fun h => h) (fun _ _ h => h))
      have HWb6 := Held.mk (HWb.out.keep hk6 (fun h => h) (fun _ _ h => h))
      have HPk6 := Held.mk (HPk.out.keep hk6 (fun h => h))
      have HQk6 := Held.mk (HQk.out.keep hk6 (fun h => h))
      have HOq6 : Held (OwnN _ (Q + 1) 5 .u8 vq (allLaid (ps.take k))) := ⟨hk6.own HOq.out (fun _ _ h => h)⟩
      have HBk6 : Held (Below B0 w (wr.alloc (.cells #[.int .i64 0, .int .i64 kd, .int .u64 (x : Int), .string st] 98))) := ⟨HBk.out.alloc (by have := HSk.out; have := HYs.out; have := HL1.out; have := HL2.out; omega) _⟩
      have HSk6 : Held (wr.heap.size < (wr.alloc (.cells #[.int .i64 0, .int .i64 kd, .int .u64 (x : Int), .string st] 98)).heap.size) := ⟨by simp⟩
      have HPik := Held.mk (fun W => pick_any 0 2 W (by unfold I64; omega) (by omega) (by omega))
      clear HW0 HWb HPk HQk HOq HBk hk6 HRk hmem
      go_wp2_with fail
      generalize wr.alloc (.cells #[.int .i64 0, .int .i64 kd, .int .u64 (x : Int), .string st] 98) = w6 at *
      refine (HPik.out _).mono ?_
      rintro e w7 ⟨rfl, rfl⟩
      generalize wr.heap.size = T at *
      have HLay : Held (∀ W, Keep (fun _ => False) w6 W → Calls Tryd.prog 73 #[.pointer (some ⟨B0, 0, none⟩), .agg #[.int .i64 0, .int .i64 kd, .int .u64 (x : Int), .string st]] W fun e w' => e = .returned (.tuple #[]) ∧ ∃ v', Wr w' B0 B0 v' (allLaid (ps.take k) ++ laid ⟨0, kd, x, st⟩) ∧ Keep (fun j => j = B0 ∨ v0.ownBlock = some j) W w' ∧ (v'.ownBlock = v0.ownBlock ∨ ∃ b, v'.ownBlock = some b ∧ W.heap.size ≤ b)) := ⟨fun W hW =>
        lay_any B0 B0 v0 _ ⟨0, kd, x, st⟩ W HGd.out (by have h1 := HLl.out; have h2 : st.size = 0 := HSz.out; show (allLaid (ps.take k)).length + st.size ≤ 225179981368310; omega) (HW6.out.keep hW (fun h => h) (fun _ _ h => h))⟩
      have p0 := HPk6.out.cell 0
      have t0 := HTb.out.cell 0
      have t1 := HTb.out.cell 1
      have t2 := HTb.out.cell 2
      have t3 := HTb.out.cell 3
      simp at p0 t0 t1 t2 t3
      have hnT : T ≠ B0 := by have := HSk.out; have := HYs.out; have := HL1.out; have := HL2.out; omega
      have hnP : P ≠ B0 := by have := HL1.out; have := HL2.out; omega
      have hvT : ¬ v0.ownBlock = some T := fun e => own_blk_ne HW6.out.own HTb.out (by decide) e
      have hvP : ¬ v0.ownBlock = some P := fun e => own_blk_ne HW6.out.own HPk6.out (by decide) e
      have HnT : Held (¬ (T = B0 ∨ v0.ownBlock = some T)) := ⟨fun h => h.elim hnT hvT⟩
      have HnP : Held (¬ (P = B0 ∨ v0.ownBlock = some P)) := ⟨fun h => h.elim hnP hvP⟩
      clear hnT hnP hvT hvP
      go_wp2_with fail
      go_region_held3 (fun w' => w'.cell? ⟨P, 0, none⟩ = some (.pointer (some ⟨B0, 0, none⟩)) ∧ w'.cell? ⟨T, 0, none⟩ = some (.int .i64 0) ∧ w'.cell? ⟨T, 1, none⟩ = some (.int .i64 kd) ∧ w'.cell? ⟨T, 2, none⟩ = some (.int .u64 (x : Int)) ∧ w'.cell? ⟨T, 3, none⟩ = some (.string st)) (first | exact ⟨p0, t0, t1, t2, t3⟩ | exact ⟨d0, d1, d2, d3, d4⟩ | go_keep)
        (first
          | (go_at_call 73; refine (HLay.out _ (by first | exact Keep.refl _ _ | exact (Keep.refl _ _).drew)).mono ?_; rintro e w8 ⟨rfl, v8, hw8, hk8, hat8⟩; have d0 := hk8.cell (a := ⟨P, 0, none⟩) (by exact p0) HnP.out; have d1 := hk8.cell (a := ⟨T, 0, none⟩) (by exact t0) HnT.out; have d2 := hk8.cell (a := ⟨T, 1, none⟩) (by exact t1) HnT.out; have d3 := hk8.cell (a := ⟨T, 2, none⟩) (by exact t2) HnT.out; have d4 := hk8.cell (a := ⟨T, 3, none⟩) (by exact t3) HnT.out))
      have hk8' : Keep (fun j => j = B0 ∨ v0.ownBlock = some j) w6 w8 := ⟨hk8.os, hk8.tape, hk8.output, hk8.size, hk8.block⟩
      have hlt12 := HL1.out
      have hlt23 := HL2.out
      have hlt34 := HYs.out
      have hltT := HSk.out
      have hge0 : ∀ j, v0.ownBlock = some j → Q + 1 ≤ j := fun j e => (HNe.out j e).1
      have hgeq : ∀ j, vq.ownBlock = some j → Q + 1 ≤ j := fun j e => own_ge HOq6.out j e
      have HW8 := Held.mk hw8
      have HWb8 := Held.mk (HWb6.out.keep hk8' (fun h => h.elim (by omega) (fun e => by have := hge0 _ e; omega)) (fun _ e => by simp [Value.ownBlock] at e))
      have HPk8 := Held.mk (HPk6.out.keep hk8' (fun h => h.elim (by omega) (fun e => by have := hge0 _ e; omega)))
      have HQk8 := Held.mk (HQk6.out.keep hk8' (fun h => h.elim (by omega) (fun e => by have := hge0 _ e; omega)))
      have HTb8 := Held.mk (HTb.out.keep hk8' HnT.out)
      have HOq8 : Held (OwnN w8 (Q + 1) 5 .u8 vq (allLaid (ps.take k))) := ⟨hk8'.own HOq6.out (fun j e h => h.elim (fun e2 => by have := hgeq j e; omega) (fun e2 => (HNe.out j e2).2 e))⟩
      have HNe8 : Held (∀ b, v8.ownBlock = some b → Q + 1 ≤ b ∧ vq.ownBlock ≠ some b) := ⟨fun b e => by
        rcases hat8 with h | ⟨b', h, h2⟩
        · exact HNe.out b (h ▸ e)
        · rw [h] at e
          injection e with e
          subst e
          have h3 : w6.heap.size ≤ b' := h2
          refine ⟨by have := HSk6.out; omega, fun e4 => ?_⟩
          have := own_lt HOq6.out b' e4
          omega⟩
      have HBk8 : Held (Below B0 w w8) := ⟨by
        rw [← hB0]
        rw [← hB0] at HBk6
        exact ((Keep.of_below HBk6.out (fun _ => False)).then hk8' (fun j hj h => h.elim (fun e => by omega) (fun e => by have := hge0 j e; omega))).to_below (fun _ _ h => h)⟩
      have HSk8 : Held (T < w8.heap.size) := ⟨by have := HSk6.out; have := hk8'.size; omega⟩
      clear hw8 hk8 hat8 hk8' HW6 HWb6 HPk6 HQk6 HOq6 HTb HBk6 HSk6 HLay HNe p0 t0 t1 t2 t3 d0 d1 d2 d3 d4 hge0 HnT HnP
      have q0 := HQk8.out.cell 0
      have qf := HQk8.out.frozen 0
      have t0 := HTb8.out.cell 0
      have t1 := HTb8.out.cell 1
      have t2 := HTb8.out.cell 2
      have t3 := HTb8.out.cell 3
      simp at q0 t0 t1 t2 t3
      obtain ⟨Aq, nq, cq, rfl, hnq, _⟩ := HOq8.out.slice
      have HLad : Held (∀ W, Keep (fun _ => False) w8 W → Calls Tryd.prog 74 #[.slice Aq nq cq, .agg #[.int .i64 0, .int .i64 kd, .int .u64 (x : Int), .string st]] W fun e w' => ∃ v', e = .returned v' ∧ OwnN w' (Q + 1) 5 .u8 v' (allLaid (ps.take k) ++ laid ⟨0, kd, x, st⟩) ∧ Keep (fun j => (Value.slice Aq nq cq).ownBlock = some j) W w' ∧ (v'.ownBlock = (Value.slice Aq nq cq).ownBlock ∨ ∃ b, v'.ownBlock = some b ∧ W.heap.size ≤ b)) := ⟨fun W hW =>
        laid_any (Q + 1) (.slice Aq nq cq) _ ⟨0, kd, x, st⟩ W HGd.out HKd.out (by have h1 := HLl.out; omega) (hW.own HOq8.out (fun _ _ h => h)) (by have := HSk8.out; have := hW.size; omega)⟩
      have HnQ : Held (¬ (Value.slice Aq nq cq).ownBlock = some Q) := ⟨fun e => by have := hgeq _ e; omega⟩
      have HnT2 : Held (¬ (Value.slice Aq nq cq).ownBlock = some T) := ⟨fun e => own_blk_ne HOq8.out HTb8.out (by decide) e⟩
      go_wp2_with fail
      refine start_ (n := 8) (S := fun w' => w'.cell? ⟨Q, 0, none⟩ = some (.slice Aq nq cq) ∧ w'.cell? ⟨T, 0, none⟩ = some (.int .i64 0) ∧ w'.cell? ⟨T, 1, none⟩ = some (.int .i64 kd) ∧ w'.cell? ⟨T, 2, none⟩ = some (.int .u64 (x : Int)) ∧ w'.cell? ⟨T, 3, none⟩ = some (.string st)) (ds := [7]) #[false, false, false, false, false, false, false, false] (by kernel_rfl) rfl rfl ⟨q0, t0, t1, t2, t3⟩ (fun hHeld => ?_)
      refine pure_ (i := 0) (N := some 46) (v := ?_) (a' := ?_) #[true, false, false, false, false, false, false, false] rfl rfl (by kernel_rfl) (fun _ _ _ h => h) (Or.inl ⟨by rfl, ?_⟩) ?_ ?_
      rotate_left
      · intro w'
        go_simp
        with_reducible rfl
      rotate_left
      · simp only [Act.put, List.setIfInBounds_toArray, List.set_cons_zero, List.set_cons_succ, i64_w, i32_w]
        rfl
      refine pure_ (i := 1) (N := some 47) (v := ?_) (a' := ?_) #[true, true, false, false, false, false, false, false] rfl rfl (by kernel_rfl) (fun _ _ _ h => h) (Or.inl ⟨by rfl, ?_⟩) ?_ ?_
      rotate_left
      · intro w'
        go_simp
        with_reducible rfl
      rotate_left
      · simp only [Act.put, List.setIfInBounds_toArray, List.set_cons_zero, List.set_cons_succ, i64_w, i32_w]
        rfl
      refine pure_ (i := 2) (N := some 48) (v := ?_) (a' := ?_) #[true, true, true, false, false, false, false, false] rfl rfl (by kernel_rfl) (fun _ _ _ h => h) (Or.inl ⟨by rfl, ?_⟩) ?_ ?_
      rotate_left
      · intro w'
        go_simp
        with_reducible rfl
      rotate_left
      · simp only [Act.put, List.setIfInBounds_toArray, List.set_cons_zero, List.set_cons_succ, i64_w, i32_w]
        rfl
      refine take_ (i := 3) (N := some 49) (v := ?_) (a' := ?_) #[true, true, true, true, false, false, false, false] rfl rfl (by kernel_rfl) (fun _ _ _ h => h) (Or.inl ⟨by rfl, ?_⟩) hHeld ?_ ?_
      rotate_left
      · rintro w' ⟨s0, s1, s2, s3, s4⟩
        go_simp
        with_reducible rfl
      rotate_left
      · simp only [Act.put, List.setIfInBounds_toArray, List.set_cons_zero, List.set_cons_succ, i64_w, i32_w]
        rfl
      refine take_ (i := 4) (N := some 50) (v := ?_) (a' := ?_) #[true, true, true, true, true, false, false, false] rfl rfl (by kernel_rfl) (fun _ _ _ h => h) (Or.inl ⟨by rfl, ?_⟩) hHeld ?_ ?_
      rotate_left
      · rintro w' ⟨s0, s1, s2, s3, s4⟩
        go_simp
        with_reducible rfl
      rotate_left
      · simp only [Act.put, List.setIfInBounds_toArray, List.set_cons_zero, List.set_cons_succ, i64_w, i32_w]
        rfl
      refine one_ (i := 5) (N := some 51) #[true, true, true, true, true, true, false, false] rfl rfl (by kernel_rfl) (by decide) (fun K hK => ?_)
      refine goes_ Tryd.func74 (by kernel_rfl) rfl #[.slice Aq nq cq, .agg #[.int .i64 0, .int .i64 kd, .int .u64 (x : Int), .string st]] (by rfl) rfl rfl (by simp only [List.map_toArray, List.map_cons, List.map_nil]; rfl) ?_
      with_reducible refine ((HLad.out _ (by first | exact Keep.refl _ _ | exact (Keep.refl _ _).drew))).mono ?_
      rintro e w9 ⟨v9, rfl, ho9, hk9, hat9⟩
      refine ⟨_, rfl, ?_⟩
      obtain ⟨A9, n9, c9, rfl, hn9, _⟩ := ho9.slice
      have e0 := hk9.cell (a := ⟨Q, 0, none⟩) (by exact q0) HnQ.out
      have e1 := hk9.cell (a := ⟨T, 0, none⟩) (by exact t0) HnT2.out
      have e2 := hk9.cell (a := ⟨T, 1, none⟩) (by exact t1) HnT2.out
      have e3 := hk9.cell (a := ⟨T, 2, none⟩) (by exact t2) HnT2.out
      have e4 := hk9.cell (a := ⟨T, 3, none⟩) (by exact t3) HnT2.out
      have ef : w9.frozen? ⟨Q, 0, none⟩ = false := (hk9.frozen (a := ⟨Q, 0, none⟩) (by exact HQk8.out.lt) HnQ.out).trans qf
      refine hK.out _ _ ⟨e0, e1, e2, e3, e4⟩ (fun hHeld => ?_)
      clear hK K
      refine norm_ (a' := ?_) ?_ ?_
      rotate_left
      · show Act.put _ (some 51) _ = _
        simp only [Act.put, List.setIfInBounds_toArray, List.set_cons_zero, List.set_cons_succ, i64_w, i32_w]
        rfl
      refine pure_ (i := 6) (N := some 52) (v := ?_) (a' := ?_) #[true, true, true, true, true, true, true, false] rfl rfl (by kernel_rfl) (fun _ _ _ h => h) (Or.inl ⟨by rfl, ?_⟩) ?_ ?_
      rotate_left
      · intro w'
        go_simp
        with_reducible rfl
      rotate_left
      · simp only [Act.put, List.setIfInBounds_toArray, List.set_cons_zero, List.set_cons_succ, i64_w, i32_w]
        rfl
      refine last_ (i := 7) (N := none) #[true, true, true, true, true, true, true, true] rfl rfl (by kernel_rfl) (by decide) (fun K hK => ?_)
      refine skip_ (w1 := ?_) (by rfl) rfl ?_ ?_
      rotate_left
      · go_simp
        rfl
      refine hK.out _ _ ?_
      clear hK K
      refine done_ (by kernel_rfl) ?_
      have hk9' : Keep (fun j => (Value.slice Aq nq cq).ownBlock = some j) w8 w9 := ⟨hk9.os, hk9.tape, hk9.output, hk9.size, hk9.block⟩
      have hk10 : Keep (fun j => (Value.slice Aq nq cq).ownBlock = some j ∨ j = Q) w8 (w9.setCell ⟨Q, 0, none⟩ (.slice A9 n9 c9)) := (hk9'.mono (fun _ _ h => .inl h)).setCell (p := ⟨Q, 0, none⟩) (fun _ => .inr rfl) _
      have hge8 : ∀ j, v8.ownBlock = some j → Q + 1 ≤ j := fun j e => (HNe8.out j e).1
      have hge9 : ∀ j, (Value.slice A9 n9 c9).ownBlock = some j → Q + 1 ≤ j := fun j e => own_ge ho9 j e
      have HW10 := Held.mk (HW8.out.keep hk10 (fun h => h.elim (fun e => by have := hgeq _ e; omega) (by omega)) (fun j e h => h.elim (fun e2 => (HNe8.out j e).2 e2) (fun e2 => by have := hge8 j e; omega)))
      have HWb10 := Held.mk (HWb8.out.keep hk10 (fun h => h.elim (fun e => by have := hgeq _ e; omega) (by omega)) (fun _ e => by simp [Value.ownBlock] at e))
      have HPk10 := Held.mk (HPk8.out.keep hk10 (fun h => h.elim (fun e => by have := hgeq _ e; omega) (by omega)))
      have HQk10 : Held (Blk (w9.setCell ⟨Q, 0, none⟩ (.slice A9 n9 c9)) Q 124 #[.slice A9 n9 c9, .slice none 0 0]) := ⟨by
        have := (HQk8.out.keep hk9' HnQ.out).set_ 0 (.slice A9 n9 c9)
        simpa using this⟩
      have HOq10 : Held (OwnN (w9.setCell ⟨Q, 0, none⟩ (.slice A9 n9 c9)) (Q + 1) 5 .u8 (.slice A9 n9 c9) (allLaid (ps.take (k + 1)))) := ⟨by
        rw [HLs.out]
        exact ((Keep.refl (fun j => j = Q) w9).setCell (p := ⟨Q, 0, none⟩) (fun _ => rfl) _).own ho9 (fun j e e2 => by have := hge9 j e; omega)⟩
      have HNe10 : Held (∀ b, v8.ownBlock = some b → Q + 1 ≤ b ∧ (Value.slice A9 n9 c9).ownBlock ≠ some b) := ⟨fun b e => by
        refine ⟨hge8 b e, fun e4 => ?_⟩
        rcases hat9 with h | ⟨b', h, h2⟩
        · exact (HNe8.out b e).2 (h ▸ e4)
        · rw [h] at e4
          injection e4 with e4
          subst e4
          have h3 : w8.heap.size ≤ b' := h2
          have := own_lt HW8.out.own b' e
          omega⟩
      have HBk10 : Held (Below B0 w (w9.setCell ⟨Q, 0, none⟩ (.slice A9 n9 c9))) := ⟨by
        have hB := HBk8.out
        rw [← hB0] at hB ⊢
        exact ((Keep.of_below hB (fun _ => False)).then hk10 (fun j hj h => h.elim (fun e => by have := hgeq j e; omega) (fun e => by omega))).to_below (fun _ _ h => h)⟩
      have HSk10 : Held (Q + 1 ≤ (w9.setCell ⟨Q, 0, none⟩ (.slice A9 n9 c9)).heap.size) := ⟨by have := HSk8.out; have := hk10.size; omega⟩
      have g1 := hk10.cell (a := ⟨T, 1, none⟩) t1 (fun h => h.elim HnT2.out (fun e => by have : T = Q := e; omega))
      have HW11 : Held (Wr (w9.setCell ⟨Q, 0, none⟩ (.slice A9 n9 c9)) B0 B0 v8 (allLaid (ps.take (k + 1)))) := ⟨by rw [HLs.out]; exact HW10.out⟩
      clear hk9' hk10 hge8 hge9 hk9 hat9 ho9 e0 e1 e2 e3 e4 ef hHeld q0 qf t0 t1 t2 t3 HW8 HWb8 HPk8 HQk8 HOq8 HTb8 HNe8 HBk8 HSk8 HLad HnQ HnT2 HW10
      generalize w9.setCell ⟨Q, 0, none⟩ (.slice A9 n9 c9) = wa at *
      rcases hkd with ⟨hkd, hkn⟩ | ⟨hkd, hkn⟩
      · rcases hkd with rfl | rfl
        all_goals
          go_wp2_with fail
          go_roundw
          case rel => exact ⟨k + 1, v8, .slice A9 n9 c9, by go_num, by omega, HW11, HWb10, HPk10, HQk10, HOq10, HNe10, HBk10, HSk10, .inl ⟨hkn, rfl⟩⟩
          case measure => simp [intOf]; omega
      · subst hkd
        have p10 := HPk10.out.cell 0
        simp at p10
        have HAll : Held (allLaid (ps.take (k + 1)) = allLaid ps) := ⟨by rw [List.take_of_length_le (by have := HP.out.len; omega)]⟩
        rw [HAll.out] at HW11 HOq10
        have HLa : Held ((allLaid ps).length ≤ 9000) := ⟨by
          have := allLaid_short ps HP.out.good HP.out.kinds
          have h2 := HP.out.len
          omega⟩
        go_wp2_with fail
        refine (done_any B0 B0 v8 _ wa (by have := HLa.out; omega) HW11.out).mono ?_
        rintro e wb ⟨va, rfl, hoa, hba⟩
        have kb := Keep.of_below hba (fun _ => False)
        have HWb := Held.mk (HW11.out.keep kb (fun h => h) (fun _ _ h => h))
        have HPb := Held.mk (HPk10.out.keep kb (fun h => h))
        have HBab := Held.mk hba
        have HOa := Held.mk hoa
        have pb := HPb.out.cell 0
        simp at pb
        clear hba hoa kb p10
        go_wp2_with fail
        refine (done_any B0 B0 v8 _ wb (by have := HLa.out; omega) HWb.out).mono ?_
        rintro e wc ⟨vb, rfl, hob, hbb⟩
        have HBbc := Held.mk hbb
        have HBac : Held (Below wa.heap.size wa wc) := ⟨HBab.out.trans (hbb.mono HBab.out.size)⟩
        have HOb := Held.mk hob
        clear hbb hob pb
        obtain ⟨A1, n1, c1, rfl, hn1, _⟩ := HOa.out.slice
        obtain ⟨A2, n2, c2, rfl, hn2, _⟩ := HOb.out.slice
        have qc := (HQk10.out.keep (Keep.of_below HBac.out (fun _ => False)) (fun h => h)).cell 0
        simp at qc
        have HSm : Held (∀ (d : Nat) (A3 : Option Addr) (n3 c3 : Nat) (R : Nat), OwnN wc R 5 .u8 (.slice A3 n3 c3) (allLaid ps) → Calls Tryd.prog 12 #[.slice A3 n3 c3, .slice A9 n9 c9] (wc.drewN d) fun e w' => e = .returned (.bool true) ∧ ∃ m, w' = (wc.drewN d).drewN m) := ⟨fun d A3 n3 c3 R hO3 => by
          obtain ⟨A', c', e', _, hr'⟩ := RdN.of_own hO3
          injection e' with e1 e2 e3
          subst e1 e2 e3
          obtain ⟨A'', c'', e'', _, hr''⟩ := RdN.of_own ((Keep.of_below HBac.out (fun _ => False)).own HOq10.out (fun _ _ h => h))
          injection e'' with e1 e2 e3
          subst e1 e2 e3
          have hl := HLa.out
          have h := Kit.same_any _ _ A3 A9 _ _ c3 c9 _ _ (wc.drewN d) (RdV.keep hr' ((Keep.refl (fun _ => False) wc).drewN d) (fun _ _ h => h)) (RdV.keep hr'' ((Keep.refl (fun _ => False) wc).drewN d) (fun _ _ h => h)) (by omega) (by omega)
          rw [decide_eq_true rfl] at h
          exact h⟩
        have HOa' : Held (OwnN wc wa.heap.size 5 .u8 (.slice A1 n1 c1) (allLaid ps)) := ⟨(Keep.of_below HBbc.out (fun _ => False)).own HOa.out (fun _ _ h => h)⟩
        go_wp2_with fail
        refine (HSm.out 0 A1 n1 c1 _ HOa'.out).mono ?_
        rintro e w7 ⟨rfl, m7, rfl⟩
        go_wp2_with fail
        refine (HSm.out m7 A2 n2 c2 _ HOb.out).mono ?_
        rintro e w7 ⟨rfl, m8, rfl⟩
        clear HSm qc
        have kd : Keep (fun _ => False) wc ((wc.drewN m7).drewN m8) := ((Keep.refl _ wc).drewN m7).drewN m8
        have HOad : Held (OwnN ((wc.drewN m7).drewN m8) wa.heap.size 5 .u8 (.slice A1 n1 c1) (allLaid ps)) := ⟨kd.own HOa'.out (fun _ _ h => h)⟩
        have HObd : Held (OwnN ((wc.drewN m7).drewN m8) wb.heap.size 5 .u8 (.slice A2 n2 c2) (allLaid ps)) := ⟨kd.own HOb.out (fun _ _ h => h)⟩
        have HBad : Held (Below wa.heap.size wa ((wc.drewN m7).drewN m8)) := ⟨below_drwN (below_drwN HBac.out m7) m8⟩
        clear kd HOa'
        generalize (wc.drewN m7).drewN m8 = wd at *
        have HRx : Held (RdV (wd.alloc (.cells #[.slice A1 n1 c1, .slice A2 n2 c2] 23)) (fun _ => True) 1 (some ⟨wd.heap.size, 0, none⟩) 2 [.slice A1 n1 c1, .slice A2 n2 c2]) := ⟨rfl, fun _ => ⟨_, rfl, trivial, World.news_of_block (cs := #[.slice A1 n1 c1, .slice A2 n2 c2]) (t := 23) (fr := (0, 0)) (heap_alloc_new _ _)⟩⟩
        have HX : Held (Q + 1 ≤ (wd.alloc (.cells #[.slice A1 n1 c1, .slice A2 n2 c2] 23)).heap.size) := ⟨by have := HSk10.out; have := HBad.out.size; simp; omega⟩
        go_wp2_with ((at_builtin; go_loud (refine appS _ (Q + 1) rfl (.tmp 83) (.tmp 86) 61 23 (.slice none 0 0) 1 24 rfl Tryd.underlying61 AptBytes.info_rows rfl (by decide) (by decide) (.slice none 0 0) 0 [] rfl (own_nil _ _ _ _) (fun _ => True) (some ⟨wd.heap.size, 0, none⟩) 2 2 [.slice A1 n1 c1, .slice A2 n2 c2] rfl HRx.out (by simp [Value.oneCell']) (by decide) HX.out ?_)); (intro v2 w3 ho3 hg3 hat3))
        have kx : Keep (fun _ => False) wd w3 := (((Keep.refl (fun _ => False) wd).alloc _).grown hg3 (fun j hj e => by simp [Value.ownBlock] at e))
        have ka : Keep (fun _ => False) wa w3 := (Keep.of_below HBad.out _).trans kx
        have HF1 := Held.mk (HW11.out.keep ka (fun h => h) (fun _ _ h => h))
        have HF2 := Held.mk (HWb10.out.keep ka (fun h => h) (fun _ e => by simp [Value.ownBlock] at e))
        have HF3 := Held.mk (HPk10.out.keep ka (fun h => h))
        have HF4 := Held.mk (HQk10.out.keep ka (fun h => h))
        have HF5 : Held (OwnN w3 (Q + 1) 5 .u8 (.slice A9 n9 c9) (allLaid ps)) := ⟨ka.own HOq10.out (fun _ _ h => h)⟩
        have HF6 : Held (Below B0 w w3) := ⟨by
          have hB := HBk10.out
          rw [← hB0] at hB ⊢
          exact ((Keep.of_below hB (fun _ => False)).trans ka).to_below (fun _ _ h => h)⟩
        have HF7 : Held (Q + 1 ≤ w3.heap.size) := ⟨by have := HSk10.out; have := ka.size; omega⟩
        have HF8 : Held (w3.ownsRow (Q + 1) 23 1 v2 2 [.slice A1 n1 c1, .slice A2 n2 c2]) := ⟨ho3⟩
        have HF9 : Held (OwnN w3 wa.heap.size 5 .u8 (.slice A1 n1 c1) (allLaid ps)) := ⟨kx.own HOad.out (fun _ _ h => h)⟩
        have HF10 : Held (OwnN w3 wb.heap.size 5 .u8 (.slice A2 n2 c2) (allLaid ps)) := ⟨kx.own HObd.out (fun _ _ h => h)⟩
        have HF11 : Held (Q + 1 ≤ wa.heap.size ∧ Q + 1 ≤ wb.heap.size ∧ ∀ b, (Value.slice A1 n1 c1).ownBlock = some b → b < wb.heap.size ∧ v8.ownBlock ≠ some b ∧ (Value.slice A9 n9 c9).ownBlock ≠ some b) := ⟨HSk10.out, by have := HSk10.out; have := HBab.out.size; omega, fun b e => by
          have h1 := own_lt HOa.out b e
          have h2 := own_ge HOad.out b e
          exact ⟨h1, fun e2 => by have := own_lt HW11.out.own b e2; omega, fun e2 => by have := own_lt HOq10.out b e2; omega⟩⟩
        have HF12 : Held (∀ b, (Value.slice A2 n2 c2).ownBlock = some b → v8.ownBlock ≠ some b ∧ (Value.slice A9 n9 c9).ownBlock ≠ some b) := ⟨fun b e => by
          have h2 := own_ge HObd.out b e
          have h3 := HBab.out.size
          exact ⟨fun e2 => by have := own_lt HW11.out.own b e2; omega, fun e2 => by have := own_lt HOq10.out b e2; omega⟩⟩
        have HE1 : Held (allLaid ps = allLaid (ps.take (k + 1))) := ⟨HAll.out.symm⟩
        rw [HE1.out] at HF1 HF5
        clear kx ka ho3 hg3 hat3 HOad HObd HBad HRx HX HOa HOb HBab HBbc HBac HW11 HWb HPb HWb10 HPk10 HQk10 HOq10 HBk10 HSk10
        go_roundw
        case rel => exact ⟨k + 1, v8, .slice A9 n9 c9, by go_num, by omega, HF1, HF2, HF3, HF4, HF5, HNe10, HF6, HF7, .inr ⟨hkn, _, _, _, _, HF8, HF9, HF10, HF11, HF12⟩⟩
        case measure => simp [intOf]; omega
    · obtain ⟨hkn, va, vb, R1, R2, HTo, HVa, HVb, HRa, HRb⟩ := hT.resolve_left (fun h => hlt h.1)
      subst hkn
      have HAll : Held (allLaid (ps.take k) = allLaid ps) := ⟨by rw [List.take_of_length_le (by have := HP.out.len; omega)]⟩
      rw [HAll.out] at HW0 HOq
      have HLa : Held ((allLaid ps).length ≤ 9000) := ⟨by
        have := allLaid_short ps HP.out.good HP.out.kinds
        have h2 := HP.out.len
        omega⟩
      obtain ⟨At, nt, ct, rfl, hAt, hrt⟩ : ∃ (A : Option Addr) (n c : Nat), u5 = .slice A n c ∧ n = 2 ∧ RdV wr (fun k => u5.ownBlock = some k) 1 A 2 [va, vb] := by
        obtain ⟨A, c, e, _, h⟩ := RdV.of_own HTo.out
        exact ⟨A, 2, c, e, rfl, h⟩
      subst hAt
      have hlt12 := HL1.out
      have hlt23 := HL2.out
      have hlt34 := HYs.out
      have hsq := HSk.out
      have HAp := Held.mk (AptBytes.apart_in (Q + 1) 2 At ct (two_ va vb) (fun _ => (allLaid ps).length) _ wr hrt hsq
        (fun j hj => by
          have hc : j = 0 ∨ j = 1 := by omega
          rcases hc with rfl | rfl
          · exact ⟨_, own_rebase HVa.out (fun b e => by have := own_ge HVa.out b e; have := HRa.out.1; omega)⟩
          · exact ⟨_, own_rebase HVb.out (fun b e => by have := own_ge HVb.out b e; have := HRa.out.2.1; omega)⟩)
        (two_fst fun b h3 h4 => by have := (HRa.out.2.2 b h3).1; have := own_ge HVb.out b h4; omega)
        (fun b hb h => by
          rcases two_tch hb with h2 | h2
          · exact own_type_ne HVa.out HTo.out (by decide) h2 h
          · exact own_type_ne HVb.out HTo.out (by decide) h2 h) (by omega) (fun _ => by have := HLa.out; omega))
      clear hT hrt
      go_wp2_with fail
      refine HAp.out.mono ?_
      rintro e wx ⟨rfl, hkx⟩
      have HNq : Held (∀ j, (va.ownBlock = some j ∨ vb.ownBlock = some j) → Q + 1 ≤ j ∧ v0.ownBlock ≠ some j ∧ vq.ownBlock ≠ some j) := ⟨fun j h => by
        rcases h with h | h
        · have h1 := HRa.out.2.2 j h
          have h2 := own_ge HVa.out j h
          exact ⟨by have := HRa.out.1; omega, h1.2.1, h1.2.2⟩
        · have h1 := HRb.out j h
          have h2 := own_ge HVb.out j h
          exact ⟨by have := HRa.out.2.1; omega, h1.1, h1.2⟩⟩
      have hky : Keep (fun j => va.ownBlock = some j ∨ vb.ownBlock = some j) wr wx := hkx.mono (fun j _ h => two_tch h)
      have HG0 := Held.mk (HW0.out.keep hky (fun h => by have := (HNq.out _ h).1; omega) (fun j e h => (HNq.out j h).2.1 e))
      have HG1 := Held.mk (HWb.out.keep hky (fun h => by have := (HNq.out _ h).1; omega) (fun j e => by simp [Value.ownBlock] at e))
      have HGP := Held.mk (HPk.out.keep hky (fun h => by have := (HNq.out _ h).1; omega))
      have HGQ := Held.mk (HQk.out.keep hky (fun h => by have := (HNq.out _ h).1; omega))
      have HGo : Held (OwnN wx (Q + 1) 5 .u8 vq (allLaid ps)) := ⟨hky.own HOq.out (fun j e h => (HNq.out j h).2.2 e)⟩
      have HGB : Held (Below B0 w wx) := ⟨by
        have hB := HBk.out
        rw [← hB0] at hB ⊢
        exact ((Keep.of_below hB (fun _ => False)).then hky (fun j hj h => by have := (HNq.out j h).1; omega)).to_below (fun _ _ h => h)⟩
      have hB0x : B0 ≤ wx.heap.size := by have := HG0.out.blk.lt; omega
      clear hkx hky HAp HW0 HWb HPk HQk HOq HBk HTo HVa HVb HRa HRb HNq HNe HSk
      have p0 := HGP.out.cell 0
      have p1 := HGP.out.cell 1
      have q0 := HGQ.out.cell 0
      have q1 := HGQ.out.cell 1
      simp at p0 p1 q0 q1
      obtain ⟨Aq, nq, cq, rfl, hnq, _, hrq⟩ := rd_own HGo.out
      have HD : Held (∀ (W : World) (B : Nat) (L : List Int), ((B = B0 ∧ L = allLaid ps) ∨ (B = B1 ∧ L = [])) → Keep (fun _ => False) wx W → Calls Tryd.prog 42 #[.pointer (some ⟨B, 0, none⟩)] W fun e w' => ∃ v', e = .returned v' ∧ OwnN w' W.heap.size 5 .u8 v' L ∧ Below W.heap.size W w') := ⟨fun W B L hBL hW => by
        rcases hBL with ⟨rfl, rfl⟩ | ⟨rfl, rfl⟩
        · exact done_any _ _ v0 _ W (by have := HLa.out; omega) (HG0.out.keep hW (fun h => h) (fun _ _ h => h))
        · exact done_any _ _ _ _ W (by simp) (HG1.out.keep hW (fun h => h) (fun _ _ h => h))⟩
      have HSm : Held (∀ (W : World) (A3 : Option Addr) (n3 c3 : Nat) (v3 : Value) (L : List Int) (ok3 : Nat → Prop), ((v3 = .slice Aq nq cq ∧ L = allLaid ps) ∨ (v3 = .slice none 0 0 ∧ L = [])) → RdN W ok3 .u8 A3 n3 L → Keep (fun _ => False) wx W → Calls Tryd.prog 12 #[.slice A3 n3 c3, v3] W fun e w' => e = .returned (.bool true) ∧ ∃ m, w' = W.drewN m) := ⟨fun W A3 n3 c3 v3 L ok3 hv hr3 hW => by
        have hl3 := hr3.len
        rcases hv with ⟨rfl, rfl⟩ | ⟨rfl, rfl⟩
        · have hl := HLa.out
          have hlq := hnq.out
          have h := Kit.same_any _ _ A3 Aq n3 nq c3 cq _ _ W hr3 (RdV.keep hrq hW (fun _ _ h => h)) (by omega) (by omega)
          rw [decide_eq_true rfl] at h
          exact h
        · have h := Kit.same_any _ _ A3 none n3 0 c3 0 _ _ W hr3 (show RdN W (fun _ => True) .u8 none 0 ([] : List Int) from RdV.none_) (by simp at hl3; omega) (by omega)
          rw [decide_eq_true rfl] at h
          exact h⟩
      have hb : Keep (fun _ => False) wx wx := Keep.refl _ _
      go_wp2_with fail
      go_region_held3 (fun w' => w'.cell? ⟨P, 0, none⟩ = some (.pointer (some ⟨B0, 0, none⟩)) ∧ w'.cell? ⟨P, 1, none⟩ = some (.pointer (some ⟨B1, 0, none⟩)) ∧ w'.cell? ⟨Q, 0, none⟩ = some (.slice Aq nq cq) ∧ w'.cell? ⟨Q, 1, none⟩ = some (.slice none 0 0)) (first | exact ⟨p0, p1, q0, q1⟩ | exact ⟨d0, d1, d2, d3⟩ | go_keep)
        (first
          | (go_at_call 42; refine (HD.out _ _ _ (by first | exact .inl ⟨rfl, rfl⟩ | exact .inr ⟨rfl, rfl⟩) (by first | exact hb | exact hb.drew)).mono ?_; rintro e w8 ⟨v8, rfl, ho8, hb8⟩; obtain ⟨A8, n8, c8, rfl, _, _, hr8⟩ := rd_own ho8; have hb : Keep (fun _ => False) wx w8 := (by first | exact hb.trans (Keep.of_below hb8 _) | exact hb.drew.trans (Keep.of_below hb8 _)); have d0 := hb.cell (a := ⟨P, 0, none⟩) (by exact p0) (fun h => h); have d1 := hb.cell (a := ⟨P, 1, none⟩) (by exact p1) (fun h => h); have d2 := hb.cell (a := ⟨Q, 0, none⟩) (by exact q0) (fun h => h); have d3 := hb.cell (a := ⟨Q, 1, none⟩) (by exact q1) (fun h => h))
          | (go_at_call 12; refine (HSm.out _ _ _ _ _ _ _ (by first | exact .inl ⟨rfl, rfl⟩ | exact .inr ⟨rfl, rfl⟩) (by exact hr8) (by first | exact hb | exact hb.drew)).mono ?_; rintro e w9 ⟨rfl, m9, rfl⟩; have hb : Keep (fun _ => False) wx _ := hb.drewN m9; have d0 := hb.cell (a := ⟨P, 0, none⟩) (by exact p0) (fun h => h); have d1 := hb.cell (a := ⟨P, 1, none⟩) (by exact p1) (fun h => h); have d2 := hb.cell (a := ⟨Q, 0, none⟩) (by exact q0) (fun h => h); have d3 := hb.cell (a := ⟨Q, 1, none⟩) (by exact q1) (fun h => h)))
      have HBz : Held (Below B0 w _) := ⟨HGB.out.trans ((hb.to_below (fun _ _ h => h)).mono hB0x)⟩
      go_wp2_with fail
      go_ret
      exact ⟨rfl, hB0 ▸ HBz.out⟩
end Wire
end Go.Proofs.YthkhemcbkcoliaaDoor
