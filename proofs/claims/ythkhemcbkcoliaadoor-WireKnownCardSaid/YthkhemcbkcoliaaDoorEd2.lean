/- append: the old row still stands. -/
import Derived.Test.YthkhemcbkcoliaaDoorMem
import Derived.Test.YthkhemcbkcoliaaDoorWus
import Derived.Test.YthkhemcbkcoliaaDoorWfs
import Derived.Test.YthkhemcbkcoliaaDoorWfr
import Derived.Test.YthkhemcbkcoliaaDoorCpy
import Derived.Test.YthkhemcbkcoliaaDoorWrd
namespace Go.Proofs.YthkhemcbkcoliaaDoor
set_option linter.unusedVariables false
set_option linter.unusedSimpArgs false
namespace Mem
open Go.RowKit Lib
section
variable {P : Program} (w : World)
theorem run_append_own_kpt (base : Nat) (t ty e : TypeId) (i : TypeInfo) (z : Value) (size bytes : Nat) (ht : P.underlying t = some (.slice e)) (hi : P.info? e = some i) (hz : i.zero = some z)
    (hsize : i.size = size) (hby : i.bytes = bytes) (hzs : z.cells.size = size) (hsz : 0 < size)
    (v : Value) (n : Nat) (xs : List Value) (hown : w.ownsRow base e size v n xs)
    (a : Addr) (m c : Nat) (news : List Value) (hl : news.length = m * size) (hnews : ∀ j u, news[j]? = some u → w.cell? (a.add j) = some u) (h1 : ∀ u ∈ news, u.oneCell' = true)
    (h63 : n + m ≤ maxLen) (hbytes : ((n + m) + (n + m) / 4 + 192) * bytes ≤ 281474976710656) (hbase : base ≤ w.heap.size) :
    ∃ v' w', (Builtin.append_ #[t, t] ty #[v, .slice (some a) m c]).run P w = .ok v' w' ∧ w'.ownsRow base e size v' (n + m) (xs ++ news) ∧ w.grownBy w' v.ownBlock ∧ w'.ownsRow base e size v n xs := by
  subst hsize
  subst hby
  have hsmall : n + m ≤ 9223372036854775807 := by simp only [maxLen] at h63; omega
  have hlen : (xs ++ news).length = (n + m) * i.size := by rw [List.length_append, hown.1, hl, Nat.add_mul]
  have grown : ∀ (old : Nat), old < n + m → ∀ (row : Option Nat),
      (w.drew.alloc (.cells (xs.toArray ++ news.toArray ++ Builtin.zeroCells z.cells (grownCap w (n + m) old e - (n + m))) e)).ownsRow base e i.size
        (.slice (some ⟨w.heap.size, 0, none⟩) (n + m) (grownCap w (n + m) old e)) (n + m) (xs ++ news) ∧
      w.grownBy (w.drew.alloc (.cells (xs.toArray ++ news.toArray ++ Builtin.zeroCells z.cells (grownCap w (n + m) old e - (n + m))) e)) row := by
    intro old ho row
    have hge := grownCap_ge w (n + m) old e
    have hcm : grownCap w (n + m) old e ≤ maxLen := grownCap_le_maxLen w (n + m) old e h63
    refine ⟨⟨hlen, .inr ⟨w.heap.size, _, _, rfl, hbase, heap_alloc_new w.drew _, hge, hcm, ?_, ?_⟩⟩, ⟨rfl, rfl, rfl, by simp, fun k hk _ => by rw [Below.heap_alloc _ _ _ (by simpa using hk)]; rfl⟩⟩
    · simp only [Array.size_append, List.size_toArray, size_zeroCells, hzs, hown.1, hl, ← Nat.add_mul]
      congr 1
      omega
    · simp only [Array.toList_append, List.append_assoc]
      rw [← List.append_assoc, ← hlen]
      exact List.take_left
  rcases hown.2 with ⟨rfl, rfl⟩ | ⟨g, cap, cur, rfl, hbg, hg, hnc, hcm, hcs, htake⟩
  · have hx : xs = [] := List.eq_nil_of_length_eq_zero (by simpa using hown.1)
    subst hx
    by_cases hm : m = 0
    · subst hm
      have hn : news = [] := List.eq_nil_of_length_eq_zero (by simpa using hl)
      subst hn
      refine ⟨.slice none 0 0, w, ?_, World.ownsRow_nil w base e i.size, ⟨rfl, rfl, rfl, Nat.le_refl _, fun _ _ _ => rfl⟩, World.ownsRow_nil w base e i.size⟩
      simp [Builtin.append_, run_underlying ht, sizeOf, typeInfo, hi, Builtin.lenOf, Builtin.firstCells, loadCells, loadCellsFrom]
    · have hr := run_append_nil (P := P) w t ty e i z ht hi hz a m c news hl hnews (by omega) (by omega) (by have hb := hbytes; simp only [Nat.zero_add] at hb; exact Nat.le_trans (Nat.mul_le_mul_right _ (by omega)) hb)
      have hgr := grown 0 (by omega) (Value.ownBlock (.slice none 0 0))
      simp only [Nat.zero_add, List.nil_append, Array.empty_append] at hgr ⊢
      exact ⟨_, _, hr, hgr.1, hgr.2, World.ownsRow_nil _ base e i.size⟩
  · by_cases hroom : n + m ≤ cap
    · have hfit : n * i.size + news.length ≤ cur.size := by rw [hl, hcs, ← Nat.add_mul]; exact Nat.mul_le_mul_right _ hroom
      have hr := run_append_room (P := P) w t ty e i ht hi g n cap cur hg a m c news hl hnews h1 hroom hfit
      refine ⟨_, _, hr, ⟨hlen, .inr ⟨g, cap, _, rfl, hbg, setRow_heap w g cur _ e _ hg, hroom, hcm, ?_, ?_⟩⟩, ⟨rfl, rfl, rfl, by simp, fun k _ hk => setRow_other w g k _ (fun e => hk (by simp [Value.ownBlock, e]))⟩, ⟨hown.1, .inr ⟨g, cap, _, rfl, hbg, setRow_heap w g cur _ e _ hg, hnc, hcm, ?_, ?_⟩⟩⟩
      · simp only [List.size_toArray, List.length_append, List.length_take, List.length_drop, Array.length_toList]
        omega
      · rw [htake, ← hlen]
        exact List.take_left
      · simp only [List.size_toArray, List.length_append, List.length_take, List.length_drop, Array.length_toList]
        omega
      · rw [htake, List.append_assoc, ← hown.1]
        exact List.take_left
    · have holds : ∀ j u, xs[j]? = some u → w.cell? ((⟨g, 0, none⟩ : Addr).add j) = some u := hown.cells (g := g) rfl
      have hr := run_append_grow (P := P) w t ty e i z ht hi hz ⟨g, 0, none⟩ n cap xs hown.1 holds a m c news hl hnews (by omega) (by omega) (growslice_fits_wide (by omega) hbytes)
      have hgr := grown cap (by omega) (Value.ownBlock (.slice (some ⟨g, 0, none⟩) n cap))
      exact ⟨_, _, hr, hgr.1, hgr.2, (Keep.of_grown (grown cap (by omega) none).2).own hown (fun _ _ h => by cases h)⟩
end
section
variable {P : Program} {w : World}
/-- append(v, x...) of numbers, behind 'at_builtin': the old row still stands. -/
theorem appK {ops : Array Oper} {rest : List Oper} {o : Oper} {a : Act} {Q : Exit → Act → World → Prop} (base : Nat) (hw : Region.wanted o (yielded ops a.tmps) = true) (s x : Operand) (t e : TypeId) (z : Value) (size bytes : Nat)
    (ho : o.op = .call { callee := .builtin .append, args := #[s, x], argTypes := #[t, t] })
    (ht : P.underlying t = some (.slice e)) (hinfo : (P.info? e).map (fun i => (i.zero, i.size, i.bytes)) = some (some z, size, bytes)) (hzs : z.cells.size = size) (hsz : 0 < size) (hb0 : 0 < bytes)
    (v : Value) (n : Nat) (xs : List Value) (hs : a.eval s = v) (hown : w.ownsRow base e size v n xs)
    (ok : Nat → Prop) (ad : Addr) (m c : Nat) (hm : 0 < m) (news : List Value) (hx : a.eval x = .slice (some ad) m c) (hr : RdV w ok size (some ad) m news) (h1 : ∀ u ∈ news, u.oneCell' = true)
    (hbytes : ((n + m) + (n + m) / 4 + 192) * bytes ≤ 281474976710656) (hbase : base ≤ w.heap.size)
    (h : ∀ v' w', w'.ownsRow base e size v' (n + m) (xs ++ news) → w.grownBy w' v.ownBlock → w'.ownsRow base e size v n xs → wpList P ops Q rest (a.put o.dst v') w') : wpList P ops Q (o :: rest) a w := by
  obtain ⟨i0, hi, hzz⟩ := Option.map_eq_some_iff.1 hinfo
  simp only [Prod.mk.injEq] at hzz
  obtain ⟨hz0, hz1, hz2⟩ := hzz
  have hlen : (n + m) + (n + m) / 4 + 192 ≤ 281474976710656 := Nat.le_trans (Nat.le_mul_of_pos_right _ hb0) hbytes
  refine wpList_step fun _ hK => ?_
  rw [if_pos hw]
  have hcells : ∀ j u, news[j]? = some u → w.cell? (ad.add j) = some u := by
    obtain ⟨ad', h, _, hc⟩ := hr.2 hm
    injection h with h
    subst h
    exact hc
  obtain ⟨v', w', hrun, h2, h3, h4⟩ := run_append_own_kpt (P := P) w base t o.type e i0 z size bytes ht hi hz0 hz1 hz2 hzs hsz v n xs hown ad m c news hr.1 hcells h1 (by simp only [maxLen]; omega) hbytes hbase
  unfold Oper.wp execOp
  simp only [ho, resolve, invoke, builtin, Sem.run_bind, Sem.run_pure, Result.andThen_ok, List.map_toArray, List.map_cons, List.map_nil, hs, hx, hrun]
  exact hK _ _ (h v' w' h2 h3 h4)
end
end Mem
end Go.Proofs.YthkhemcbkcoliaaDoor

/- frames: payloads about the most: walked. -/
namespace Go.Proofs.YthkhemcbkcoliaaDoor
set_option linter.unusedVariables false
set_option linter.unusedSimpArgs false
namespace Wire
open Go.RowKit Mem Apn Err Aps
def ramp (k : Nat) : List Int := (List.range k).map fun i : Nat => (i : Int) % 256
theorem ramp_length (k : Nat) : (ramp k).length = k := by simp [ramp]
theorem ramp_succ (k : Nat) : ramp (k + 1) = ramp k ++ [(k : Int) % 256] := by simp [ramp, List.range_succ]
theorem ramp_byt (k : Nat) : Byt (ramp k) := by
  intro c hc
  simp only [ramp, List.mem_map] at hc
  obtain ⟨i, _, rfl⟩ := hc
  omega
theorem Byt.wf {l : List Int} (h : Byt l) : ∀ x ∈ l, (Lit.int .u8 x).wf = true := fun x hx => by
  have := h x hx
  simp [Lit.wf, IntKind.min, IntKind.max, IntKind.signed, IntKind.bits]
  omega
def lenV : Value → Nat
  | .slice _ n _ => n
  | _ => 0
/-- An own row, read below the world's size. -/
theorem rd_of_own {w : World} {base e : Nat} {v : Value} {xs : List Int} (h : OwnN w base e .u8 v xs) : ∃ A c, v = .slice A xs.length c ∧ xs.length ≤ c ∧ RdN w (fun k => k < w.heap.size) .u8 A xs.length xs := by
  obtain ⟨A, c, rfl, hc, hr⟩ := RdN.of_own h
  exact ⟨A, c, rfl, hc, RdV.mono hr fun k hk => own_lt h k hk⟩
theorem rd_keep {w w' : World} {A : Option Addr} {n : Nat} {xs : List Int} (h : RdN w (fun k => k < w.heap.size) .u8 A n xs) (hb : Below w.heap.size w w') : RdN w' (fun k => k < w'.heap.size) .u8 A n xs :=
  RdV.mono (RdV.keep h (Keep.of_below hb (fun _ => False)) (fun _ _ h => h)) fun k hk => Nat.lt_of_lt_of_le hk hb.size
theorem info_u8_ : (Tryd.prog.info? 5).map (fun i => (i.zero, i.size, i.bytes)) = some (some (.int .u8 0), 1, 1) := info_u8
set_option maxHeartbeats 2000000 in
set_option maxRecDepth 100000 in
theorem fms_all (w : World) (hg : Laid w) : Calls Tryd.prog 60 #[] w fun e w' => e = .returned (.bool true) ∧ Below w.heap.size w w' := by
  have HG := Held.mk hg
  clear hg
  go_enter Tryd.func60, Tryd.ntmps60
  go_wp2_with fail
  go_loopw [1] (fun p wr => ∃ k : Nat, k ≤ 65536 ∧ OwnN wr w.heap.size 5 .u8 p (ramp k) ∧ Held (Below w.heap.size w wr)) (fun p _ => 65536 - lenV p)
  case atStart => exact ⟨0, by omega, own_nil _ _ _ _, ⟨Below.refl _ _⟩⟩
  case round =>
    obtain ⟨k, hk, ho, HB⟩ := hrel
    obtain ⟨Ap, np, cp, rfl, hn, hc⟩ := ho.slice
    obtain rfl : np = k := by rw [hn.out, ramp_length]
    have hl := ramp_length np
    have hs := HB.out.size
    by_cases hlt : np < 65536
    · have HS := Held.mk (ramp_succ np)
      have HO := Held.mk ho
      clear ho
      generalize ramp np = rp at *
      have hltI : (np : Int) < 65536 := by omega
      have i1 : decide ((np : Int) < 65536) = true := decide_eq_true hltI
      go_wp2_with (at_builtin; go_loud (refine app1N w.heap.size rfl (.tmp 10) (.tmp 14) 23 5 .u8 1 rfl Tryd.underlying23 info_u8 (by decide) _ rp _ rfl rfl HO.out ?c1 ?c2 ?_); (case c1 => omega); (case c2 => omega); intro v1 w1 ho1 hg1 hat1)
      go_roundw
      case rel =>
        refine ⟨np + 1, by omega, ?_, ?_⟩
        · rw [HS.out]
          exact ho1
        · exact ⟨((Keep.of_below HB.out (fun _ => False)).grown hg1 (fun j hj e => by have := own_ge HO.out j e; omega)).to_below (fun _ _ h => h)⟩
      case measure =>
        have h2 := ho1.slice
        obtain ⟨A2, n2, c2, rfl, hn2, _⟩ := h2
        have := hn2.out
        rw [List.length_append, hl] at this
        simp [lenV]
        simp at this
        omega
    · obtain rfl : np = 65536 := by omega
      have HBy := Held.mk (ramp_byt 65536)
      have HL := Held.mk hl
      obtain ⟨A_, c_, e_, _, hrd⟩ := rd_of_own ho
      rw [hl] at hrd e_
      injection e_ with e1 e2 e3
      subst e1
      have HFb := Held.mk (frameL_byt 5 (ramp 65536) (by unfold U64; omega) (by omega) HBy.out)
      have HFl : Held ((frameL 5 (ramp 65536)).length ≤ 65560 ∧ 1 ≤ (frameL 5 (ramp 65536)).length) := ⟨by
        have h1 := frameL_length 5 (ramp 65536)
        have h2 := form_length 5 (by unfold U64; omega)
        have h3 := form_length (ramp 65536).length (by unfold U64; omega)
        omega⟩
      clear hl hn ho hk hlt e3
      generalize ramp 65536 = rp at *
      have HR := Held.mk hrd
      clear hrd
      go_wp2_with fail
      refine (rframe_in _ 5 Ap 65536 cp rp wr HR.out (by omega) (by unfold U64; omega) HBy.out).mono ?_
      rintro e w1 ⟨v1, rfl, ho1, hb1⟩
      generalize hfr : frameL 5 rp = fr at *
      obtain ⟨Af, cf, rfl, hcf, hrf⟩ := rd_of_own ho1
      have HB1 : Held (Below w.heap.size w w1) := ⟨HB.out.trans (hb1.mono HB.out.size)⟩
      have HR1 := Held.mk (rd_keep HR.out hb1)
      have HRf := Held.mk hrf
      have HCf := Held.mk hcf
      clear ho1 hb1 hrf hcf hfr HR HB hs
      go_wp2_with fail
      refine (copy_any _ Ap 65536 cp rp w1 HR1.out (by omega)).mono ?_
      rintro e w2 ⟨v2, rfl, ho2, hb2⟩
      obtain ⟨Ac, nc, cc, rfl, hnc, hcc⟩ := ho2.slice
      obtain rfl : nc = 65536 := by rw [hnc.out, HL.out]
      have HO2 := Held.mk ho2
      have HB2 : Held (Below w.heap.size w w2) := ⟨HB1.out.trans (hb2.mono HB1.out.size)⟩
      have HB12 := Held.mk hb2
      clear ho2 hb2 hnc hcc
      have hc1 : rp.length ≤ 65536 := by have := HL.out; omega
      have hs2 := HB12.out.size
      go_wp2_with (at_builtin; go_loud (refine app1N w1.heap.size rfl (.tmp 22) (.tmp 23) 23 5 .u8 1 rfl Tryd.underlying23 info_u8 (by decide) _ rp _ rfl rfl HO2.out ?c1 ?c2 ?_); (case c1 => omega); (case c2 => omega); intro v3 w3 ho3 hg3 hat3)
      have HO3 := Held.mk ho3
      have HBs : Held (Below w.heap.size w w3) := ⟨by
        have h0 := HB1.out.size
        exact ((Keep.of_below HB2.out (fun _ => False)).grown hg3 (fun j hj e => by have := own_ge HO2.out j e; omega)).to_below (fun _ _ h => h)⟩
      have HB13 : Held (Below w1.heap.size w1 w3) := ⟨((Keep.of_below HB12.out (fun _ => False)).grown hg3 (fun j hj e => by have := own_ge HO2.out j e; omega)).to_below (fun _ _ h => h)⟩
      obtain ⟨A3, c3, rfl, hc3, hr3⟩ := rd_of_own ho3
      have HR3 := Held.mk hr3
      have hl3 : (rp ++ [1]).length = 65537 := by rw [List.length_append, HL.out]; rfl
      have HBy3 : Held (Byt (rp ++ [1])) := ⟨HBy.out.append (by intro c hc; simp at hc; omega)⟩
      rw [hl3] at HR3 HO3 hr3 hc3
      rw [hl3]
      generalize rp ++ [1] = rq at *
      obtain ⟨m, hm⟩ : ∃ m, fr.length = m + 1 := ⟨fr.length - 1, by have := HFl.out; omega⟩
      have hmb : m ≤ 65560 := by have := HFl.out; omega
      generalize hnf : fr.length = nf at *
      have HF1 := Held.mk (frames_any 5 Ap 65536 cp rp w3 (HG.out.below HBs.out) (by decide) (rd_keep HR1.out HB13.out) (Byt.wf HBy.out) (by omega))
      have HRW : Held (∀ W, Below w3.heap.size w3 W → Laid W ∧ RdN W (fun k => k < W.heap.size) .u8 A3 65537 rq ∧ RdN W (fun k => k < W.heap.size) .u8 Af nf fr ∧ RdN W (fun k => k < W.heap.size) .u8 Af m (fr.take m)) := ⟨fun W hB => by
        have h0 := rd_keep HRf.out (HB13.out.trans (hB.mono HB13.out.size))
        refine ⟨HG.out.below (HBs.out.trans (hB.mono HBs.out.size)), rd_keep HR3.out hB, h0, ?_⟩
        have h1 := RdV.front h0 (k := m) (by omega)
        rw [Nat.mul_one] at h1
        unfold RdN
        rw [show nums .u8 (fr.take m) = (nums .u8 fr).take m by simp [nums, List.map_take]]
        exact h1⟩
      have HCm : Held (nf ≤ cf ∧ 65537 ≤ c3) := ⟨⟨HCf.out, hc3⟩⟩
      have hmI : (nf : Int) - 1 = (m : Int) := by omega
      have hcfI : (nf : Int) ≤ (cf : Int) := by have := HCf.out; omega
      have hnfI : (nf : Int) ≤ 65561 := by omega
      have hmc : (m : Int) ≤ (cf : Int) := by omega
      clear ho3 hg3 hat3 hr3 hl3 HO2 HB12 HB2 HR1 HR3 HCf HO3 hc3 hs2 hnf hm
      go_wp2_with fail
      refine HF1.out.mono ?_
      rintro e w4 ⟨rfl, hb4⟩
      have HB4 := Held.mk hb4
      clear hb4 HF1
      go_wp2_with fail
      refine (frames_any 5 A3 65537 c3 rq w4 (HRW.out _ HB4.out).1 (by decide) (HRW.out _ HB4.out).2.1 (Byt.wf HBy3.out) (by omega)).mono ?_
      rintro e w5 ⟨rfl, hb5⟩
      have HB5 : Held (Below w3.heap.size w3 w5) := ⟨HB4.out.trans (hb5.mono HB4.out.size)⟩
      clear hb5 HB4
      go_wp2_with fail
      refine (unframes_any Af nf cf fr w5 (HRW.out _ HB5.out).1 (HRW.out _ HB5.out).2.2.1 (Byt.wf HFb.out) (by omega) HCm.out.1).mono ?_
      rintro e w6 ⟨rfl, hb6⟩
      have HB6 : Held (Below w3.heap.size w3 w6) := ⟨HB5.out.trans (hb6.mono HB5.out.size)⟩
      clear hb6 HB5
      go_wp2_with fail
      refine (unframes_any Af m cf (fr.take m) w6 (HRW.out _ HB6.out).1 (HRW.out _ HB6.out).2.2.2 (Byt.wf (HFb.out.take m)) (by omega) (by omega)).mono ?_
      rintro e w7 ⟨rfl, hb7⟩
      have HB7 : Held (Below w.heap.size w w7) := ⟨HBs.out.trans ((HB6.out.trans (hb7.mono HB6.out.size)).mono HBs.out.size)⟩
      clear hb7 HB6 HRW HBs HB13 HB1 HRf HFb HFl HBy HL
      go_wp2_with fail
      go_loopw [5, 6] (fun x b wr => ∃ k : Nat, x = .int .u64 k ∧ 65535 ≤ k ∧ k ≤ 65539 ∧ Held (Below w.heap.size w wr)) (fun x _ _ => 65539 - (intOf x).toNat)
      case atStart => exact ⟨65535, rfl, by omega, by omega, HB7⟩
      case round =>
        obtain ⟨k, rfl, hk1, hk2, HB8⟩ := hrel
        clear HB7
        by_cases hlk : k < 65539
        · have i2 : decide ((k : Int) < 65539) = true := decide_eq_true (by omega)
          generalize wr = w8 at *
          go_wp2_with fail
          refine (rput_any w8.heap.size _ [] k w8 (by unfold U64; omega) (by simp) (own_nil _ _ _ _) (Nat.le_refl _)).mono ?_
          rintro e w9 ⟨v9, rfl, ho9, hg9, hat9⟩
          rw [List.nil_append] at ho9
          have hfl := form_length k (by unfold U64; omega)
          have HFy := Held.mk (Byt.form k (by unfold U64; omega))
          generalize form k = fk at *
          have HB9 : Held (Below w8.heap.size w8 w9) := ⟨((Keep.refl (fun _ => False) w8).grown hg9 (fun j hj e => by simp [Value.ownBlock] at e)).to_below (fun _ _ h => h)⟩
          have hs8 := HB8.out.size
          have HBw9 : Held (Below w.heap.size w w9) := ⟨HB8.out.trans (HB9.out.mono HB8.out.size)⟩
          have HO9 := Held.mk ho9
          obtain ⟨A9, c9, rfl, hc9, hr9⟩ := rd_of_own ho9
          have HU1 := Held.mk (unframes_any A9 fk.length c9 fk w9 (HG.out.below HBw9.out) hr9 (Byt.wf HFy.out) (by omega) hc9)
          clear ho9 hg9 hat9 hr9
          go_wp2_with fail
          refine HU1.out.mono ?_
          rintro e w10 ⟨rfl, hb10⟩
          have HB10 : Held (Below w8.heap.size w8 w10) := ⟨HB9.out.trans (hb10.mono HB9.out.size)⟩
          have HO10 : Held (OwnN w10 w8.heap.size 5 .u8 (.slice A9 fk.length c9) fk) := ⟨(Keep.of_below hb10 (fun k => ¬ k < w9.heap.size)).own HO9.out (fun j hj h => h (own_lt HO9.out j hj))⟩
          clear hb10 HU1 HO9 HBw9
          have hs10 := HB10.out.size
          have HRa : Held (RdV (w10.alloc (.cells #[.int .u8 255] 5)) (fun _ => True) 1 (some ⟨w10.heap.size, 0, none⟩) 1 (nums .u8 [255])) := ⟨⟨rfl, fun _ => ⟨_, rfl, trivial, World.news_of_block (cs := #[.int .u8 255]) (t := 5) (fr := (0, 0)) (heap_alloc_new _ _)⟩⟩⟩
          have HOa : Held ((w10.alloc (.cells #[.int .u8 255] 5)).ownsRow w8.heap.size 5 1 (.slice A9 fk.length c9) fk.length (nums .u8 fk)) := ⟨World.ownsRow.alloc HO10.out _⟩
          have HCa : Held (((fk.length + 1) + (fk.length + 1) / 4 + 192) * 1 ≤ 281474976710656) := ⟨by omega⟩
          have HXa : Held (w8.heap.size ≤ (w10.alloc (.cells #[.int .u8 255] 5)).heap.size) := ⟨by simp; omega⟩
          go_wp2_with ((at_builtin; go_loud (refine appK w8.heap.size (by rfl) (.tmp 57) (.tmp 58) 23 5 (.int .u8 0) 1 1 rfl Tryd.underlying23 info_u8 rfl (by decide) (by decide) (.slice A9 fk.length c9) fk.length (nums .u8 fk) rfl HOa.out (fun _ => True) ⟨w10.heap.size, 0, none⟩ 1 1 (by decide) (nums .u8 [255]) rfl HRa.out (nums_one _ _) HCa.out HXa.out ?_)); (intro v11 w11 ho11 hg11 hold11))
          have HO11 : Held (OwnN w11 w8.heap.size 5 .u8 v11 (fk ++ [255])) := ⟨own_of .u8 rfl ho11⟩
          have HOb : Held (OwnN w11 w8.heap.size 5 .u8 (.slice A9 fk.length c9) fk) := ⟨hold11⟩
          have HB11 : Held (Below w8.heap.size w8 w11) := ⟨(((Keep.of_below HB10.out (fun _ => False)).alloc _).grown hg11 (fun j hj e => by have := own_ge HO10.out j e; omega)).to_below (fun _ _ h => h)⟩
          clear ho11 hold11 hg11 HRa HOa HXa HO10 HB10 hs10 HB9
          obtain ⟨Ab, cb, rfl, hcb, hrb⟩ := rd_of_own HO11.out
          have HBw11 : Held (Below w.heap.size w w11) := ⟨HB8.out.trans (HB11.out.mono HB8.out.size)⟩
          have hlb : (fk ++ [255]).length = fk.length + 1 := by simp
          have HU2 := Held.mk (unframes_any Ab (fk ++ [255]).length cb (fk ++ [255]) w11 (HG.out.below HBw11.out) hrb (Byt.wf (HFy.out.append (by intro c hc; simp at hc; omega))) (by omega) hcb)
          rw [hlb] at HU2 ⊢
          clear hrb hcb hlb HO11 HBw11
          go_wp2_with fail
          refine HU2.out.mono ?_
          rintro e w12 ⟨rfl, hb12⟩
          have HB12 : Held (Below w8.heap.size w8 w12) := ⟨HB11.out.trans (hb12.mono HB11.out.size)⟩
          have HO12 : Held (OwnN w12 w8.heap.size 5 .u8 (.slice A9 fk.length c9) fk) := ⟨(Keep.of_below hb12 (fun k => ¬ k < w11.heap.size)).own HOb.out (fun j hj h => h (own_lt HOb.out j hj))⟩
          clear hb12 HU2 HOb HB11
          have hs12 := HB12.out.size
          have HRa : Held (RdV (w12.alloc (.cells #[.int .u8 1, .int .u8 2, .int .u8 3, .int .u8 4, .int .u8 5, .int .u8 6] 5)) (fun _ => True) 1 (some ⟨w12.heap.size, 0, none⟩) 6 (nums .u8 [1, 2, 3, 4, 5, 6])) := ⟨⟨rfl, fun _ => ⟨_, rfl, trivial, World.news_of_block (cs := #[.int .u8 1, .int .u8 2, .int .u8 3, .int .u8 4, .int .u8 5, .int .u8 6]) (t := 5) (fr := (0, 0)) (heap_alloc_new _ _)⟩⟩⟩
          have HOa : Held ((w12.alloc (.cells #[.int .u8 1, .int .u8 2, .int .u8 3, .int .u8 4, .int .u8 5, .int .u8 6] 5)).ownsRow w8.heap.size 5 1 (.slice A9 fk.length c9) fk.length (nums .u8 fk)) := ⟨World.ownsRow.alloc HO12.out _⟩
          have HCa : Held (((fk.length + 6) + (fk.length + 6) / 4 + 192) * 1 ≤ 281474976710656) := ⟨by omega⟩
          have HXa : Held (w8.heap.size ≤ (w12.alloc (.cells #[.int .u8 1, .int .u8 2, .int .u8 3, .int .u8 4, .int .u8 5, .int .u8 6] 5)).heap.size) := ⟨by simp; omega⟩
          go_wp2_with ((at_builtin; go_loud (refine appK w8.heap.size (by rfl) (.tmp 64) (.tmp 65) 23 5 (.int .u8 0) 1 1 rfl Tryd.underlying23 info_u8 rfl (by decide) (by decide) (.slice A9 fk.length c9) fk.length (nums .u8 fk) rfl HOa.out (fun _ => True) ⟨w12.heap.size, 0, none⟩ 6 6 (by decide) (nums .u8 [1, 2, 3, 4, 5, 6]) rfl HRa.out (nums_one _ _) HCa.out HXa.out ?_)); (intro v13 w13 ho13 hg13 hold13))
          have HO13 : Held (OwnN w13 w8.heap.size 5 .u8 v13 (fk ++ [1, 2, 3, 4, 5, 6])) := ⟨own_of .u8 rfl ho13⟩
          have HB13 : Held (Below w8.heap.size w8 w13) := ⟨(((Keep.of_below HB12.out (fun _ => False)).alloc _).grown hg13 (fun j hj e => by have := own_ge HO12.out j e; omega)).to_below (fun _ _ h => h)⟩
          clear ho13 hold13 hg13 HRa HOa HXa HO12 HB12 hs12
          obtain ⟨Ab, cb, rfl, hcb, hrb⟩ := rd_of_own HO13.out
          have HBw13 : Held (Below w.heap.size w w13) := ⟨HB8.out.trans (HB13.out.mono HB8.out.size)⟩
          have hlb : (fk ++ [1, 2, 3, 4, 5, 6]).length = fk.length + 6 := by simp
          have HU3 := Held.mk (unframes_any Ab (fk ++ [1, 2, 3, 4, 5, 6]).length cb (fk ++ [1, 2, 3, 4, 5, 6]) w13 (HG.out.below HBw13.out) hrb (Byt.wf (HFy.out.append (by intro c hc; simp at hc; omega))) (by omega) hcb)
          rw [hlb] at HU3 ⊢
          clear hrb hcb hlb HO13
          go_wp2_with fail
          refine HU3.out.mono ?_
          rintro e w14 ⟨rfl, hb14⟩
          have HB14 : Held (Below w.heap.size w w14) := ⟨HBw13.out.trans (hb14.mono HBw13.out.size)⟩
          clear hb14 HU3 HBw13 HB13 hs8 HB8
          go_wp2_with fail
          go_roundw
          case rel => exact ⟨k + 1, by go_num, by omega, by omega, HB14⟩
          case measure => simp [intOf] <;> omega
        · obtain rfl : k = 65539 := by omega
          have i2 : decide ((65539 : Int) < 65539) = false := by decide
          have HLd := Held.mk (HG.out.below HB8.out)
          generalize wr = w8 at *
          go_wp2_with fail
          refine (frames_any 18446744073709551615 none 0 0 [] w8 HLd.out (by decide) RdV.none_ (by simp) (by omega)).mono ?_
          rintro e w9 ⟨rfl, hb9⟩
          have HB9 : Held (Below w.heap.size w w9) := ⟨HB8.out.trans (hb9.mono HB8.out.size)⟩
          clear hb9 HB8 HLd
          have HLd := Held.mk (HG.out.below HB9.out)
          go_wp2_with fail
          refine (frames_any 0 none 0 0 [] w9 HLd.out (by decide) RdV.none_ (by simp) (by omega)).mono ?_
          rintro e w10 ⟨rfl, hb10⟩
          have HB10 : Held (Below w.heap.size w w10) := ⟨HB9.out.trans (hb10.mono HB9.out.size)⟩
          clear hb10 HB9 HLd
          have HLd : Held (Laid (w10.alloc (.cells #[.int .u8 0] 5))) := ⟨HG.out.below (HB10.out.alloc HB10.out.size _)⟩
          have HRa : Held (RdN (w10.alloc (.cells #[.int .u8 0] 5)) (fun k => k < (w10.alloc (.cells #[.int .u8 0] 5)).heap.size) .u8 (some ⟨w10.heap.size, 0, none⟩) 1 [0]) := ⟨rfl, fun _ => ⟨_, rfl, by simp, World.news_of_block (cs := #[.int .u8 0]) (t := 5) (fr := (0, 0)) (heap_alloc_new _ _)⟩⟩
          go_wp2_with fail
          refine (frames_any 248 _ 1 1 [0] _ HLd.out (by decide) HRa.out (by simp; decide) (by omega)).mono ?_
          rintro e w11 ⟨rfl, hb11⟩
          have HB11 : Held (Below w.heap.size w w11) := ⟨by
            have h1 := HB10.out.alloc HB10.out.size (.cells #[.int .u8 0] 5)
            exact h1.trans (hb11.mono h1.size)⟩
          clear hb11 HB10 HLd HRa
          go_wp2_with fail
          go_ret
          exact ⟨rfl, HB11.out⟩
end Wire
end Go.Proofs.YthkhemcbkcoliaaDoor

/- edged, its second loop: bytes that begin with any two: walked. -/
namespace Go.Proofs.YthkhemcbkcoliaaDoor
set_option linter.unusedVariables false
set_option linter.unusedSimpArgs false
namespace Wire
open Go.RowKit Mem Apn Err Aps Kit
theorem rd_gets (W : World) (gs : List Get) (T : TypeId) : RdGet (W.alloc (.cells (gs.flatMap Get.cells).toArray T)) (fun k => k < (W.alloc (.cells (gs.flatMap Get.cells).toArray T)).heap.size) (some ⟨W.heap.size, 0, none⟩) gs :=
  ⟨by
    induction gs with
    | nil => rfl
    | cons p ps ih => rw [List.flatMap_cons, List.length_append, ih, List.length_cons, Get.cells_len]; omega,
   fun _ => ⟨_, rfl, by simp, World.news_of_block (cs := (gs.flatMap Get.cells).toArray) (t := T) (fr := (0, 0)) (heap_alloc_new _ _)⟩⟩
def loopsOf : Code → List Code
  | .loop c => [c]
  | .seq a b => loopsOf a ++ loopsOf b
  | .block _ c => loopsOf c
  | .scope c => loopsOf c
  | .cond _ a b => loopsOf a ++ loopsOf b
  | _ => []
noncomputable def edgedBody (i : Nat) : Code := (((Tryd.f31.body.map loopsOf).getD [])[i]?).getD .skip
def pairB (a b : Nat) : List Int := [(a : Int), (b : Int), 0, 1, 2, 3, 4, 5, 6, 7]
theorem pairB_byt (a b : Nat) (ha : a < 256) (hb : b < 256) : Byt (pairB a b) := by
  intro c hc
  simp [pairB] at hc
  omega
def getsE : List Get := [⟨0, 0, 18446744073709551615, 0⟩, ⟨0, 3, 0, 0⟩, ⟨0, 4, 0, 0⟩, ⟨1, 2, 0, 9⟩, ⟨1, 4, 0, 0⟩]
theorem getsE_good : ∀ p ∈ getsE, p.Good := by
  intro p hp
  simp [getsE] at hp
  rcases hp with rfl | rfl | rfl | rfl | rfl <;> exact ⟨by simp, by simp, by simp, by simp⟩
set_option maxHeartbeats 4000000 in
set_option maxRecDepth 100000 in
theorem edged_loop2 (W0 w1 : World) (HG : Held (Laid W0)) (HB : Held (Below W0.heap.size W0 w1)) {c0 c1 c2 c3 c4 c5 c6 c7 c8 c10 c11 c12 c13 c14 c15 c16 c17 c18 c19 c20 c21 c22 c23 c24 c25 c26 c27 c28 c29 c30 c31 c32 c33 c34 c35 c36 c37 c38 c39 c40 c41 c42 c43 c44 c45 c46 c47 c48 c49 c50 c51 c52 c53 c54 c55 c56 c57 c58 c59 c60 c61 c62 c63 c64 c65 c66 c67 c68 c69 c70 c71 c72 c73 c74 c75 c76 c77 c78 c79 c80 c81 c82 c83 c84 c85 c86 c87 c88 c89 c90 c91 c92 c93 c94 c95 c96 c97 c98 c99 c100 c101 c102 c103 c104 c105 c106 c107 c108 c109 c110 c111 c112 c113 c114 c115 c116 c117 c118 c119 c120 c121 c122 c123 c124 c125 c126 c127 c128 c129 c130 c131 c132 c133 c134 c135 c136 c137 c138 c139 c140 c141 c142 c143 c144 c145 c146 c147 c148 c149 c150 c151 c152 c153 c154 c155 c156 c157 c158 c159 : Value} {K : Act → World → Prop} {post : Ending → World → Prop}
    (HK : Held (∀ (v0 v9 v10 v11 v127 v128 v129 v130 v131 v132 v133 v134 v135 v136 v137 v138 v139 v140 v141 v142 v143 v144 v145 v146 v147 v148 v149 v150 v151 v152 v153 v154 v155 v156 v157 v158 : Value) (w' : World), Held (Below W0.heap.size W0 w') → K ⟨#[v0, c1, c2, c3, c4, c5, c6, c7, c8, v9, v10, v11, c12, c13, c14, c15, c16, c17, c18, c19, c20, c21, c22, c23, c24, c25, c26, c27, c28, c29, c30, c31, c32, c33, c34, c35, c36, c37, c38, c39, c40, c41, c42, c43, c44, c45, c46, c47, c48, c49, c50, c51, c52, c53, c54, c55, c56, c57, c58, c59, c60, c61, c62, c63, c64, c65, c66, c67, c68, c69, c70, c71, c72, c73, c74, c75, c76, c77, c78, c79, c80, c81, c82, c83, c84, c85, c86, c87, c88, c89, c90, c91, c92, c93, c94, c95, c96, c97, c98, c99, c100, c101, c102, c103, c104, c105, c106, c107, c108, c109, c110, c111, c112, c113, c114, c115, c116, c117, c118, c119, c120, c121, c122, c123, c124, c125, c126, v127, v128, v129, v130, v131, v132, v133, v134, v135, v136, v137, v138, v139, v140, v141, v142, v143, v144, v145, v146, v147, v148, v149, v150, v151, v152, v153, v154, v155, v156, v157, v158, c159], []⟩ w')) :
    Code.wp Tryd.prog (.loop (edgedBody 1)) (Exit.inBlock 4 (Exit.then K (bodyPost Tryd.prog Tryd.f31 post))) ⟨#[c0, c1, c2, c3, c4, c5, c6, c7, c8, .int .i64 0, c10, c11, c12, c13, c14, c15, c16, c17, c18, c19, c20, c21, c22, c23, c24, c25, c26, c27, c28, c29, c30, c31, c32, c33, c34, c35, c36, c37, c38, c39, c40, c41, c42, c43, c44, c45, c46, c47, c48, c49, c50, c51, c52, c53, c54, c55, c56, c57, c58, c59, c60, c61, c62, c63, c64, c65, c66, c67, c68, c69, c70, c71, c72, c73, c74, c75, c76, c77, c78, c79, c80, c81, c82, c83, c84, c85, c86, c87, c88, c89, c90, c91, c92, c93, c94, c95, c96, c97, c98, c99, c100, c101, c102, c103, c104, c105, c106, c107, c108, c109, c110, c111, c112, c113, c114, c115, c116, c117, c118, c119, c120, c121, c122, c123, c124, c125, c126, c127, c128, c129, c130, c131, c132, c133, c134, c135, c136, c137, c138, c139, c140, c141, c142, c143, c144, c145, c146, c147, c148, c149, c150, c151, c152, c153, c154, c155, c156, c157, c158, c159], []⟩ w1 := by
  conv => arg 2; arg 1; whnf
  dsimp only
  go_loopw [9] (fun i wr => ∃ a : Nat, i = .int .i64 a ∧ a ≤ 256 ∧ Held (Below W0.heap.size W0 wr)) (fun i _ => 256 - (intOf i).toNat)
  case atStart => exact ⟨0, rfl, by omega, HB⟩
  case round =>
    clear HB
    obtain ⟨a, rfl, ha, HB⟩ := hrel
    by_cases hlt : a < 256
    · have i9 : decide ((a : Int) < 256) = true := decide_eq_true (by omega)
      generalize wr = wA at *
      go_wp2_with fail
      go_loopw [10] (fun i wr => ∃ b : Nat, i = .int .i64 b ∧ b ≤ 270 ∧ Held (Below W0.heap.size W0 wr)) (fun i _ => 270 - (intOf i).toNat)
      case atStart => exact ⟨0, rfl, by omega, HB⟩
      case round =>
        clear HB
        obtain ⟨b, rfl, hb, HB⟩ := hrel
        by_cases hlb : b < 256
        · have i10 : decide ((b : Int) < 256) = true := decide_eq_true (by omega)
          generalize wr = wB at *
          go_wp2_with fail
          have HBy := Held.mk (pairB_byt a b hlt hlb)
          have HX : Held (Below W0.heap.size W0 (wB.alloc (.cells (nums .u8 (pairB a b)).toArray 5)) ∧ RdN (wB.alloc (.cells (nums .u8 (pairB a b)).toArray 5)) (fun k => k < (wB.alloc (.cells (nums .u8 (pairB a b)).toArray 5)).heap.size) .u8 (some ⟨wB.heap.size, 0, none⟩) 10 (pairB a b) ∧ (wB.alloc (.cells (nums .u8 (pairB a b)).toArray 5)).heap.size = wB.heap.size + 1) :=
            ⟨HB.out.alloc HB.out.size _, ⟨rfl, fun _ => ⟨_, rfl, by simp, World.news_of_block (cs := (nums .u8 (pairB a b)).toArray) (t := 5) (fr := (0, 0)) (heap_alloc_new _ _)⟩⟩, by simp⟩
          have he : (nums .u8 (pairB a b)).toArray = #[.int .u8 (a : Int), .int .u8 (b : Int), .int .u8 0, .int .u8 1, .int .u8 2, .int .u8 3, .int .u8 4, .int .u8 5, .int .u8 6, .int .u8 7] := rfl
          rw [he] at HX
          clear he
          generalize wB.alloc (.cells #[.int .u8 (a : Int), .int .u8 (b : Int), .int .u8 0, .int .u8 1, .int .u8 2, .int .u8 3, .int .u8 4, .int .u8 5, .int .u8 6, .int .u8 7] 5) = wC at *
          rw [← HX.out.2.2]
          have HY := Held.mk (rd_gets wC getsE 44)
          have HBc : Held (Below W0.heap.size W0 (wC.alloc (.cells (getsE.flatMap Get.cells).toArray 44))) := ⟨HX.out.1.alloc HX.out.1.size _⟩
          have HRc : Held (RdN (wC.alloc (.cells (getsE.flatMap Get.cells).toArray 44)) (fun k => k < (wC.alloc (.cells (getsE.flatMap Get.cells).toArray 44)).heap.size) .u8 (some ⟨wB.heap.size, 0, none⟩) 10 (pairB a b)) := ⟨rd_keep HX.out.2.1 ((Below.refl _ _).alloc (Nat.le_refl _) _)⟩
          have HC := Held.mk (reads_any (some ⟨wB.heap.size, 0, none⟩) (some ⟨wB.heap.size, 0, none⟩) (some ⟨wC.heap.size, 0, none⟩) 10 10 10 10 5 5 (pairB a b) (pairB a b) getsE (wC.alloc (.cells (getsE.flatMap Get.cells).toArray 44)) (HG.out.below HBc.out) HRc.out HRc.out HBy.out HBy.out (by omega) (by omega) (by omega) (by omega) rfl (by omega) HY.out getsE_good)
          refine HC.out.mono ?_
          rintro e wD ⟨rfl, hbD⟩
          have HBD : Held (Below W0.heap.size W0 wD) := ⟨HBc.out.trans (hbD.mono HBc.out.size)⟩
          have HU := Held.mk (unframes_any (some ⟨wB.heap.size, 0, none⟩) 10 10 (pairB a b) wD (HG.out.below HBD.out) (rd_keep HRc.out hbD) (Byt.wf HBy.out) (by omega) (by omega))
          clear hbD HC HRc HBc HY HX HBy HB
          go_wp2_with fail
          refine HU.out.mono ?_
          rintro e wE ⟨rfl, hbE⟩
          have HBE : Held (Below W0.heap.size W0 wE) := ⟨HBD.out.trans (hbE.mono HBD.out.size)⟩
          clear hbE HU HBD
          go_wp2_with fail
          go_roundw
          case rel => exact ⟨b + 1 + 13 * (b % 2), by go_num, by omega, HBE⟩
          case measure => simp [intOf] <;> omega
        · have i10 : decide ((b : Int) < 256) = false := decide_eq_false_iff_not.2 (by omega)
          go_wp2_with fail
          go_roundw
          case rel => exact ⟨a + 1, by go_num, by omega, HB⟩
          case measure => simp [intOf] <;> omega
    · have i9 : decide ((a : Int) < 256) = false := decide_eq_false_iff_not.2 (by omega)
      go_wp2_with fail
      exact HK.out _ _ _ _ _ _ _ _ _ _ _ _ _ _ _ _ _ _ _ _ _ _ _ _ _ _ _ _ _ _ _ _ _ _ _ _ _ HB
end Wire
end Go.Proofs.YthkhemcbkcoliaaDoor
