/- Unframe: walked. -/
import Derived.Test.YtihgmlcmdpmhhaaFrm
import Derived.Test.YtihgmlcmdpmhhaaAps
import Derived.Test.YtihgmlcmdpmhhaaRdr
import Derived.Deep.RegionHeldLaw
import Derived.Deep.RegionHeld3
namespace Go.Proofs.Ytihgmlcmdpmhhaa
set_option linter.unusedVariables false
set_option linter.unusedSimpArgs false
namespace Wire
open Go.RowKit Mem Apn
theorem results_tmp4 {fn : Func} {t u v x : Tmp} (h : fn.results = #[.tmp t, .tmp u, .tmp v, .tmp x]) (tmps : Array Value) (P : Program) (w : World) :
    (results fn tmps).run P w = .ok (.tuple #[tmps.getD t undef, tmps.getD u undef, tmps.getD v undef, tmps.getD x undef]) w := by
  simp [results, h]
theorem rd_own {w : World} {base e : Nat} {k : IntKind} {v : Value} {xs : List Int} (h : OwnN w base e k v xs) : ∃ A n c, v = .slice A n c ∧ Held (n = xs.length) ∧ n ≤ c ∧ RdN w (fun b => v.ownBlock = some b) k A n xs := by
  obtain ⟨A, c, h1, h2, h3⟩ := RdN.of_own h
  exact ⟨A, _, c, h1, ⟨rfl⟩, h2, h3⟩
/-- The frame at the beginning of bytes: its number, its payload, how many bytes it has. -/
def unf (b : List Int) : Nat × List Int × Nat × Er :=
  match (num b).2.2 with
  | .ok =>
    if 65536 < (num b).1 then (0, [], 0, .no 5)
    else match (num (b.drop (num b).2.1)).2.2 with
      | .ok =>
        if b.length < (num b).2.1 + (num (b.drop (num b).2.1)).2.1 + 4 + (num b).1 then (0, [], 0, .no 2)
        else if crc ((b.drop (num b).2.1).take (num (b.drop (num b).2.1)).2.1 ++ (b.drop ((num b).2.1 + (num (b.drop (num b).2.1)).2.1 + 4)).take (num b).1) = low ((b.drop ((num b).2.1 + (num (b.drop (num b).2.1)).2.1)).take 4)
          then ((num (b.drop (num b).2.1)).1, (b.drop ((num b).2.1 + (num (b.drop (num b).2.1)).2.1 + 4)).take (num b).1, (num b).2.1 + (num (b.drop (num b).2.1)).2.1 + 4 + (num b).1, .ok)
          else (0, [], 0, .ref wFrame 7)
      | e => (0, [], 0, e)
  | e => (0, [], 0, e)
theorem unf_bad1 {b : List Int} {sz m : Nat} {e : Er} (h : num b = (sz, m, e)) (he : e ≠ .ok) : unf b = (0, [], 0, e) := by
  unfold unf
  rw [h]
  cases e with
  | ok => exact absurd rfl he
  | no k => rfl
  | ref s k => rfl
theorem unf_many {b : List Int} {sz m : Nat} (h : num b = (sz, m, .ok)) (hs : 65536 < sz) : unf b = (0, [], 0, .no 5) := by
  unfold unf
  rw [h]
  simp only [if_pos hs]
theorem unf_bad2 {b : List Int} {sz m x k : Nat} {e : Er} (h : num b = (sz, m, .ok)) (hs : ¬ 65536 < sz) (h2 : num (b.drop m) = (x, k, e)) (he : e ≠ .ok) : unf b = (0, [], 0, e) := by
  unfold unf
  rw [h]
  cases e with
  | ok => exact absurd rfl he
  | no k => simp only [if_neg hs, h2]
  | ref s k => simp only [if_neg hs, h2]
theorem unf_good {b : List Int} {sz m x k : Nat} (h : num b = (sz, m, .ok)) (hs : ¬ 65536 < sz) (h2 : num (b.drop m) = (x, k, .ok)) : unf b =
    if b.length < m + k + 4 + sz then (0, [], 0, .no 2)
    else if crc ((b.drop m).take k ++ (b.drop (m + k + 4)).take sz) = low ((b.drop (m + k)).take 4) then (x, (b.drop (m + k + 4)).take sz, m + k + 4 + sz, .ok)
    else (0, [], 0, .ref wFrame 7) := by
  unfold unf
  rw [h]
  simp only [if_neg hs, h2]
theorem mid_eq (b : List Int) (l n : Nat) : (b.take (l + n)).drop l = (b.drop l).take n := by
  rw [List.drop_take, Nat.add_sub_cancel_left]
set_option maxHeartbeats 400000 in
set_option maxRecDepth 100000 in
theorem unframe_ok (ok : Nat → Prop) (A Ap Ak Al A1 : Option Addr) (n c sz m x k np cp nk ck nl cl n1 c1 : Nat) (pl ks ls : List Int) (w : World)
    (H1 : Held (Calls Try.prog 39 #[.slice A n c] w fun e w' => e = .returned (.tuple #[.int .u64 sz, .int .i64 m, .nilIface]) ∧ w = w'))
    (H2 : Held (Calls Try.prog 39 #[.slice A1 n1 c1] w fun e w' => e = .returned (.tuple #[.int .u64 x, .int .i64 k, .nilIface]) ∧ w = w'))
    (hrun1 : ∀ (W : World), (Instr.slice 23 (.slice A n c) (some (.int .i64 (m : Int))) none none).run Try.prog W = .ok (.slice A1 n1 c1) W)
    (hrunp : ∀ (W : World), (Instr.slice 23 (.slice A n c) (some (.int .i64 ((m : Int) + (k : Int) + 4))) (some (.int .i64 ((m : Int) + (k : Int) + 4 + (sz : Int)))) none).run Try.prog W = .ok (.slice Ap np cp) W)
    (hrunk : ∀ (W : World), (Instr.slice 23 (.slice A n c) (some (.int .i64 (m : Int))) (some (.int .i64 ((m : Int) + (k : Int)))) none).run Try.prog W = .ok (.slice Ak nk ck) W)
    (hrunl : ∀ (W : World), (Instr.slice 23 (.slice A n c) (some (.int .i64 ((m : Int) + (k : Int)))) (some (.int .i64 ((m : Int) + (k : Int) + 4))) none).run Try.prog W = .ok (.slice Al nl cl) W)
    (hszI : (0 : Int) ≤ sz) (hsI : (sz : Int) ≤ 65536) (hlep : np ≤ cp) (hlek : nk ≤ ck)
    (hw1 : IntKind.i64.wrap ((m : Int) + (k : Int)) = (m : Int) + (k : Int)) (hw2 : IntKind.i64.wrap ((m : Int) + (k : Int) + 4) = (m : Int) + (k : Int) + 4)
    (hw3 : IntKind.i64.wrap ((n : Int) - ((m : Int) + (k : Int) + 4)) = (n : Int) - ((m : Int) + (k : Int) + 4)) (hw4 : IntKind.i64.wrap (sz : Int) = (sz : Int))
    (hw5 : IntKind.i64.wrap ((m : Int) + (k : Int) + 4 + (sz : Int)) = (m : Int) + (k : Int) + 4 + (sz : Int)) (hshI : ¬ (n : Int) - ((m : Int) + (k : Int) + 4) < (sz : Int))
    (HRp : Held (RdN w (fun b => ok b ∧ b < w.heap.size) .u8 Ap np pl)) (HRk : Held (RdN w (fun b => ok b ∧ b < w.heap.size) .u8 Ak nk ks)) (HRl : Held (RdN w (fun b => ok b ∧ b < w.heap.size) .u8 Al nl ls))
    (HNp : Held (np ≤ 225179981368328)) (HNk : Held (nk ≤ 225179981368328)) (HNl : Held (nl ≤ 8)) (HBl : Held (Byt ls)) (HBx : Held (Byt (ks ++ pl)))
    (HC7 : Held ((ks.length + pl.length + (ks.length + pl.length) / 4 + 192) * 1 ≤ 281474976710656)) (HC8 : Held ((ks ++ pl).length ≤ 140737488355328))
    (hq : crc (ks ++ pl) = low ls) (HLc : Held (crc (ks ++ pl) < 4294967296)) (HLl : Held (low ls < 4294967296)) :
    Calls Try.prog 28 #[.slice A n c] w fun e w' => ∃ v, e = .returned (.tuple #[.int .u64 x, v, .int .i64 ((m : Int) + (k : Int) + 4 + (sz : Int)), .nilIface]) ∧ OwnN w' w.heap.size 5 .u8 v pl ∧ Below w.heap.size w w' := by
  generalize hcr : crc (ks ++ pl) = cr at *
  generalize hlw : low ls = lw at *
  have HCr := Held.mk hcr
  have HLw := Held.mk hlw
  have hwl : IntKind.u32.wrap (lw : Int) = (lw : Int) := by have := HLl.out; simp [IntKind.wrap, IntKind.signed, IntKind.bits]; omega
  have hSum : Held (∀ (ok' : Nat → Prop) A n c w, RdN w ok' .u8 A n (ks ++ pl) → n ≤ 140737488355328 → Calls Try.prog 25 #[.slice A n c] w fun e w' => e = .returned (.int .u32 cr) ∧ Below w.heap.size w w') := ⟨fun ok' A n c w hr hl => by rw [← HCr.out]; exact sum_any ok' A n c _ w hr hl HBx.out⟩
  have hLow : Held (∀ (ok' : Nat → Prop) A n c w, RdN w ok' .u8 A n ls → n ≤ 8 → Calls Try.prog 40 #[.slice A n c] w fun e w' => e = .returned (.int .u64 lw) ∧ w = w') := ⟨fun ok' A n c w hr hl => by rw [← HLw.out]; exact low_any ok' A n c _ w hr hl HBl.out⟩
  clear hcr hlw
  subst hq
  go_enter Try.func28, Try.ntmps28
  go_wp2_with fail
  refine H1.out.mono ?_
  rintro e w1 ⟨rfl, rfl⟩
  go_wp2_with fail
  refine H2.out.mono ?_
  rintro e w1 ⟨rfl, rfl⟩
  go_wp2_with fail
  refine (clone_any _ Ap np cp pl w HRp.out HNp.out hlep).mono ?_
  rintro e w5 ⟨v5, rfl, ho5, hb5⟩
  obtain ⟨A5, n5, c5, rfl, hn5, hc5, hr5⟩ := rd_own ho5
  have HB5 := Held.mk hb5
  have HO5 := Held.mk ho5
  have HR5 : Held (∀ W, Below w5.heap.size w5 W → RdN W _ .u8 A5 n5 pl) := ⟨fun W hB => RdV.keep hr5 (Keep.of_below hB (fun _ => False)) (fun _ _ h => h)⟩
  have HRk5 : Held (∀ W, Below w5.heap.size w5 W → RdN W _ .u8 Ak nk ks) := ⟨fun W hB => RdV.keep HRk.out (Keep.of_below (HB5.out.trans (hB.mono HB5.out.size)) (fun _ => False)) (fun _ _ h => h)⟩
  have HRl5 : Held (∀ W, Below w5.heap.size w5 W → RdN W _ .u8 Al nl ls) := ⟨fun W hB => RdV.keep HRl.out (Keep.of_below (HB5.out.trans (hB.mono HB5.out.size)) (fun _ => False)) (fun _ _ h => h)⟩
  have HC7b : Held ((ks.length + n5 + (ks.length + n5) / 4 + 192) * 1 ≤ 281474976710656) := ⟨by rw [hn5.out]; exact HC7.out⟩
  have hB : Below w5.heap.size w5 w5 := Below.refl _ _
  clear ho5 hb5 hr5
  go_wp2_with fail
  go_region_held_law (fun w' => True) (trivial)
    (first
      | (go_at_call 26; refine (clone_any _ Ak nk ck ks _ (HRk5.out _ (by first | exact hB | exact Aps.below_drw hB)) HNk.out hlek).mono ?_; rintro e w6 ⟨v6, rfl, ho6, hb6⟩; have hg6 : ∀ kk, v6.ownBlock = some kk → w5.heap.size ≤ kk := fun kk hh => Nat.le_trans (by first | exact hB.size | exact (Aps.below_drw hB).size) (own_ge ho6 kk hh); have hB := Below.trans (by first | exact hB | exact Aps.below_drw hB) (hb6.mono (by first | exact hB.size | exact (Aps.below_drw hB).size)))
      | (go_at_call 25; refine (hSum.out _ A7 n7 c7 _ (by exact hr7) (Nat.le_trans (Nat.le_of_eq hn7.out) HC8.out)).mono ?_; rintro e w8 ⟨rfl, hb8⟩; have hB := Below.trans (by first | exact hB | exact Aps.below_drw hB) (hb8.mono (by first | exact hB.size | exact (Aps.below_drw hB).size)))
      | (go_at_call 40; refine (hLow.out _ Al nl cl _ (HRl5.out _ (by first | exact hB | exact Aps.below_drw hB)) HNl.out).mono ?_; rintro e wl ⟨rfl, rfl⟩)
      | (refine stepN (o := { dst := some 64, op := Op.call { callee := Callee.builtin Builtin.append, args := #[Operand.tmp 62, Operand.tmp 63], argTypes := #[23, 23] }, type := 23, pos := "wire.go:207", after := #[{ on := 6, ground := Ground.data }, { on := 7, ground := Ground.data }, { on := 6, ground := Ground.chain }], guard := none }) w5.heap.size rfl (.tmp 62) (.tmp 63) 23 5 .u8 1 rfl Try.underlying23 info_u8 (by decide) _ ks rfl (by exact own_rebase ho6 hg6) _ A5 n5 c5 pl rfl (HR5.out _ (by first | exact hB | exact Aps.below_drw hB)) (by exact HC7b.out) (by first | exact hB.size | exact (Aps.below_drw hB).size) ?_; intro v7 w7 ho7 hg7 hat7; have hB : Below w5.heap.size w5 w7 := ((Keep.of_below (by first | exact hB | exact Aps.below_drw hB) (fun _ => False)).then (Keep.of_grown hg7) (fun kk hk e => absurd hk (Nat.not_lt.2 (hg6 kk e)))).to_below (fun _ _ h => h); obtain ⟨A7, n7, c7, rfl, hn7, hc7, hr7⟩ := rd_own ho7))
  have HO8 : Held (OwnN w8 w.heap.size 5 .u8 (.slice A5 n5 c5) pl) := ⟨(Keep.of_below hB (fun _ => False)).own HO5.out (fun _ _ h => h)⟩
  have HBw : Held (Below w.heap.size w w8) := ⟨HB5.out.trans (hB.mono HB5.out.size)⟩
  clear hB hb6 ho6 hg6 ho7 hg7 hat7 hr7 hb8
  go_wp2
  (try simp only [Exit.inBlock, Exit.then])
  refine bodyPost_ret (results_tmp4 rfl _ _ _) rfl ?_
  exact ⟨_, rfl, HO8.out, HBw.out⟩
set_option maxHeartbeats 400000 in
set_option maxRecDepth 100000 in
theorem unframe_sum (ok : Nat → Prop) (A Ap Ak Al A1 : Option Addr) (n c sz m x k np cp nk ck nl cl n1 c1 : Nat) (pl ks ls : List Int) (w : World)
    (H1 : Held (Calls Try.prog 39 #[.slice A n c] w fun e w' => e = .returned (.tuple #[.int .u64 sz, .int .i64 m, .nilIface]) ∧ w = w'))
    (H2 : Held (Calls Try.prog 39 #[.slice A1 n1 c1] w fun e w' => e = .returned (.tuple #[.int .u64 x, .int .i64 k, .nilIface]) ∧ w = w'))
    (hrun1 : ∀ (W : World), (Instr.slice 23 (.slice A n c) (some (.int .i64 (m : Int))) none none).run Try.prog W = .ok (.slice A1 n1 c1) W)
    (hrunp : ∀ (W : World), (Instr.slice 23 (.slice A n c) (some (.int .i64 ((m : Int) + (k : Int) + 4))) (some (.int .i64 ((m : Int) + (k : Int) + 4 + (sz : Int)))) none).run Try.prog W = .ok (.slice Ap np cp) W)
    (hrunk : ∀ (W : World), (Instr.slice 23 (.slice A n c) (some (.int .i64 (m : Int))) (some (.int .i64 ((m : Int) + (k : Int)))) none).run Try.prog W = .ok (.slice Ak nk ck) W)
    (hrunl : ∀ (W : World), (Instr.slice 23 (.slice A n c) (some (.int .i64 ((m : Int) + (k : Int)))) (some (.int .i64 ((m : Int) + (k : Int) + 4))) none).run Try.prog W = .ok (.slice Al nl cl) W)
    (hszI : (0 : Int) ≤ sz) (hsI : (sz : Int) ≤ 65536) (hlep : np ≤ cp) (hlek : nk ≤ ck)
    (hw1 : IntKind.i64.wrap ((m : Int) + (k : Int)) = (m : Int) + (k : Int)) (hw2 : IntKind.i64.wrap ((m : Int) + (k : Int) + 4) = (m : Int) + (k : Int) + 4)
    (hw3 : IntKind.i64.wrap ((n : Int) - ((m : Int) + (k : Int) + 4)) = (n : Int) - ((m : Int) + (k : Int) + 4)) (hw4 : IntKind.i64.wrap (sz : Int) = (sz : Int))
    (hw5 : IntKind.i64.wrap ((m : Int) + (k : Int) + 4 + (sz : Int)) = (m : Int) + (k : Int) + 4 + (sz : Int)) (hshI : ¬ (n : Int) - ((m : Int) + (k : Int) + 4) < (sz : Int))
    (HRp : Held (RdN w (fun b => ok b ∧ b < w.heap.size) .u8 Ap np pl)) (HRk : Held (RdN w (fun b => ok b ∧ b < w.heap.size) .u8 Ak nk ks)) (HRl : Held (RdN w (fun b => ok b ∧ b < w.heap.size) .u8 Al nl ls))
    (HNp : Held (np ≤ 225179981368328)) (HNk : Held (nk ≤ 225179981368328)) (HNl : Held (nl ≤ 8)) (HBl : Held (Byt ls)) (HBx : Held (Byt (ks ++ pl)))
    (HC7 : Held ((ks.length + pl.length + (ks.length + pl.length) / 4 + 192) * 1 ≤ 281474976710656)) (HC8 : Held ((ks ++ pl).length ≤ 140737488355328))
    (hq : crc (ks ++ pl) ≠ low ls) (HLc : Held (crc (ks ++ pl) < 4294967296)) (HLl : Held (low ls < 4294967296)) :
    Calls Try.prog 28 #[.slice A n c] w fun e w' => ∃ v, e = .returned (.tuple #[.int .u64 0, v, .int .i64 0, Er.enc (.ref wFrame 7)]) ∧ OwnN w' w.heap.size 5 .u8 v [] ∧ Below w.heap.size w w' := by
  generalize hcr : crc (ks ++ pl) = cr at *
  generalize hlw : low ls = lw at *
  have HCr := Held.mk hcr
  have HLw := Held.mk hlw
  have hwl : IntKind.u32.wrap (lw : Int) = (lw : Int) := by have := HLl.out; simp [IntKind.wrap, IntKind.signed, IntKind.bits]; omega
  have hSum : Held (∀ (ok' : Nat → Prop) A n c w, RdN w ok' .u8 A n (ks ++ pl) → n ≤ 140737488355328 → Calls Try.prog 25 #[.slice A n c] w fun e w' => e = .returned (.int .u32 cr) ∧ Below w.heap.size w w') := ⟨fun ok' A n c w hr hl => by rw [← HCr.out]; exact sum_any ok' A n c _ w hr hl HBx.out⟩
  have hLow : Held (∀ (ok' : Nat → Prop) A n c w, RdN w ok' .u8 A n ls → n ≤ 8 → Calls Try.prog 40 #[.slice A n c] w fun e w' => e = .returned (.int .u64 lw) ∧ w = w') := ⟨fun ok' A n c w hr hl => by rw [← HLw.out]; exact low_any ok' A n c _ w hr hl HBl.out⟩
  clear hcr hlw
  have hq1 : ((cr : Int) != (lw : Int)) = true := bne_iff_ne.2 (fun e => hq (Int.ofNat.inj e))
  have hq2 : ¬ (cr : Int) = (lw : Int) := fun e => hq (Int.ofNat.inj e)
  clear hq
  go_enter Try.func28, Try.ntmps28
  go_wp2_with fail
  refine H1.out.mono ?_
  rintro e w1 ⟨rfl, rfl⟩
  go_wp2_with fail
  refine H2.out.mono ?_
  rintro e w1 ⟨rfl, rfl⟩
  go_wp2_with fail
  refine (clone_any _ Ap np cp pl w HRp.out HNp.out hlep).mono ?_
  rintro e w5 ⟨v5, rfl, ho5, hb5⟩
  obtain ⟨A5, n5, c5, rfl, hn5, hc5, hr5⟩ := rd_own ho5
  have HB5 := Held.mk hb5
  have HO5 := Held.mk ho5
  have HR5 : Held (∀ W, Below w5.heap.size w5 W → RdN W _ .u8 A5 n5 pl) := ⟨fun W hB => RdV.keep hr5 (Keep.of_below hB (fun _ => False)) (fun _ _ h => h)⟩
  have HRk5 : Held (∀ W, Below w5.heap.size w5 W → RdN W _ .u8 Ak nk ks) := ⟨fun W hB => RdV.keep HRk.out (Keep.of_below (HB5.out.trans (hB.mono HB5.out.size)) (fun _ => False)) (fun _ _ h => h)⟩
  have HRl5 : Held (∀ W, Below w5.heap.size w5 W → RdN W _ .u8 Al nl ls) := ⟨fun W hB => RdV.keep HRl.out (Keep.of_below (HB5.out.trans (hB.mono HB5.out.size)) (fun _ => False)) (fun _ _ h => h)⟩
  have HC7b : Held ((ks.length + n5 + (ks.length + n5) / 4 + 192) * 1 ≤ 281474976710656) := ⟨by rw [hn5.out]; exact HC7.out⟩
  have hB : Below w5.heap.size w5 w5 := Below.refl _ _
  clear ho5 hb5 hr5
  go_wp2_with fail
  go_region_held_law (fun w' => True) (trivial)
    (first
      | (go_at_call 26; refine (clone_any _ Ak nk ck ks _ (HRk5.out _ (by first | exact hB | exact Aps.below_drw hB)) HNk.out hlek).mono ?_; rintro e w6 ⟨v6, rfl, ho6, hb6⟩; have hg6 : ∀ kk, v6.ownBlock = some kk → w5.heap.size ≤ kk := fun kk hh => Nat.le_trans (by first | exact hB.size | exact (Aps.below_drw hB).size) (own_ge ho6 kk hh); have hB := Below.trans (by first | exact hB | exact Aps.below_drw hB) (hb6.mono (by first | exact hB.size | exact (Aps.below_drw hB).size)))
      | (go_at_call 25; refine (hSum.out _ A7 n7 c7 _ (by exact hr7) (Nat.le_trans (Nat.le_of_eq hn7.out) HC8.out)).mono ?_; rintro e w8 ⟨rfl, hb8⟩; have hB := Below.trans (by first | exact hB | exact Aps.below_drw hB) (hb8.mono (by first | exact hB.size | exact (Aps.below_drw hB).size)))
      | (go_at_call 40; refine (hLow.out _ Al nl cl _ (HRl5.out _ (by first | exact hB | exact Aps.below_drw hB)) HNl.out).mono ?_; rintro e wl ⟨rfl, rfl⟩)
      | (refine stepN (o := { dst := some 64, op := Op.call { callee := Callee.builtin Builtin.append, args := #[Operand.tmp 62, Operand.tmp 63], argTypes := #[23, 23] }, type := 23, pos := "wire.go:207", after := #[{ on := 6, ground := Ground.data }, { on := 7, ground := Ground.data }, { on := 6, ground := Ground.chain }], guard := none }) w5.heap.size rfl (.tmp 62) (.tmp 63) 23 5 .u8 1 rfl Try.underlying23 info_u8 (by decide) _ ks rfl (by exact own_rebase ho6 hg6) _ A5 n5 c5 pl rfl (HR5.out _ (by first | exact hB | exact Aps.below_drw hB)) (by exact HC7b.out) (by first | exact hB.size | exact (Aps.below_drw hB).size) ?_; intro v7 w7 ho7 hg7 hat7; have hB : Below w5.heap.size w5 w7 := ((Keep.of_below (by first | exact hB | exact Aps.below_drw hB) (fun _ => False)).then (Keep.of_grown hg7) (fun kk hk e => absurd hk (Nat.not_lt.2 (hg6 kk e)))).to_below (fun _ _ h => h); obtain ⟨A7, n7, c7, rfl, hn7, hc7, hr7⟩ := rd_own ho7))
  have HO8 : Held (OwnN w8 w.heap.size 5 .u8 (.slice A5 n5 c5) pl) := ⟨(Keep.of_below hB (fun _ => False)).own HO5.out (fun _ _ h => h)⟩
  have HBw : Held (Below w.heap.size w w8) := ⟨HB5.out.trans (hB.mono HB5.out.size)⟩
  clear hB hb6 ho6 hg6 ho7 hg7 hat7 hr7 hb8
  go_wp2
  (try simp only [Exit.inBlock, Exit.then])
  refine bodyPost_ret (results_tmp4 rfl _ _ _) rfl ?_
  exact ⟨_, rfl, own_nil _ _ _ _, HBw.out⟩
end Wire
end Go.Proofs.Ytihgmlcmdpmhhaa
