/- WireBurst: the walk. -/
import Derived.Test.YthkhemcbkcoliaaDoorBsu
import Derived.Test.YthkhemcbkcoliaaDoorPik
import Derived.Test.YthkhemcbkcoliaaDoorWorks
import Derived.Test.YthkhemcbkcoliaaDoorWus
import Derived.Test.YthkhemcbkcoliaaDoorWfr
import Derived.Laws.BitsAllLaws
namespace Go.Proofs.YthkhemcbkcoliaaDoor
set_option linter.unusedVariables false
set_option linter.unusedSimpArgs false
namespace Wire
open Go.RowKit Mem Apn Err Aps
def tby (tn t : Nat) : Nat := tn / 256 ^ t % 256
theorem tby_lt (tn t : Nat) : tby tn t < 256 := Nat.mod_lt _ (by omega)
theorem burst_step {w : World} {base g n c : Nat} {F : List Int} {T : Nat → Nat} {pos i : Nat} (h : OwnN w base 5 .u8 (.slice (some ⟨g, 0, none⟩) n c) (flip F T pos i)) (hn : n = F.length) (hi' : pos + i < n) :
    OwnN (w.setCell ⟨g, pos + i, none⟩ (.int .u8 ((F.getD (pos + i) 0).toNat ^^^ T i : Nat))) base 5 .u8 (.slice (some ⟨g, 0, none⟩) n c) (flip F T pos (i + 1)) := by
  have hl := flip_length F T pos i (by omega)
  have hl2 := flip_length F T pos (i + 1) (by omega)
  unfold OwnN at h ⊢
  rw [hl, ← hn] at h
  rw [hl2, ← hn, ← flip_succ F T pos i (by omega)]
  have := own_set h hi' (.int .u8 ((F.getD (pos + i) 0).toNat ^^^ T i : Nat))
  rw [nums, List.map_set]
  exact this
set_option maxHeartbeats 1000000 in
set_option maxRecDepth 100000 in
theorem burst_no (x : Nat) (A1 : Option Addr) (n1 c1 : Nat) (a0 tn : Int) (w : World) (hn : 65536 < n1) :
    Calls Tryd.prog 7 #[.int .u64 x, .slice A1 n1 c1, .int .i64 a0, .int .u32 tn] w fun e w' => e = .returned (.bool true) ∧ Below w.heap.size w w' := by
  have H := Held.mk (frame_no x A1 n1 c1 w hn)
  unfold Er.enc at H
  have hnI : (65536 : Int) < (n1 : Int) := by omega
  clear hn
  go_enter Tryd.func7, Tryd.ntmps7
  go_wp2_with fail
  refine H.out.mono ?_
  rintro e w1 ⟨rfl, hw⟩
  rw [hw]
  clear hw
  go_wp2
  go_ret
  exact ⟨rfl, Below.refl _ _⟩
set_option maxHeartbeats 4000000 in
set_option maxRecDepth 100000 in
theorem burst_in (x : Nat) (A : Option Addr) (n c : Nat) (ps : List Int) (a0 : Int) (tn : Nat) (w : World) (hg : Laid w) (hx : U64 x) (hr : RdN w (fun k => k < w.heap.size) .u8 A n ps) (hb : Byt ps) (hn : n ≤ 65536) (ha : I64 a0) (ht : tn < 4294967296) :
    Calls Tryd.prog 7 #[.int .u64 x, .slice A n c, .int .i64 a0, .int .u32 tn] w fun e w' => e = .returned (.bool true) ∧ Below w.heap.size w w' := by
  have hl := hr.len
  have hp : ps.length ≤ 65536 := by omega
  have HFr := Held.mk (frame_in _ x A n c ps w hr hn hx hb)
  have HFB := Held.mk (frameL_byt x ps hx hp hb)
  have HU := Held.mk (fun pos j hj hc hne => flip_unf x ps hx hp hb (tby tn) (tby_lt tn) pos j hj hc hne)
  have hFl := frameL_length x ps
  have h1 := form_length x hx
  have h2 := form_length ps.length (by unfold U64; omega)
  have h3 := form_pos x
  have h4 := form_pos ps.length
  rw [hl] at hFl h2 h4 HU
  generalize hf0 : (form n).length + (form x).length = f0 at *
  have hF0 : (frameL x ps).length = f0 + 4 + n := by omega
  have hf1 : 2 ≤ f0 ∧ f0 ≤ 18 := by omega
  generalize frameL x ps = F at *
  have hnI : (n : Int) ≤ 65536 := by omega
  have HPk := Held.mk (fun w => pick_any a0 ((n : Int) + 1) w ha (by omega) (by omega))
  have hq0 : 0 ≤ a0 % ((n : Int) + 1) := Int.emod_nonneg _ (by omega)
  have hq1 : a0 % ((n : Int) + 1) < (n : Int) + 1 := Int.emod_lt_of_pos _ (by omega)
  obtain ⟨q, hq⟩ : ∃ q : Nat, a0 % ((n : Int) + 1) = (q : Int) := ⟨(a0 % ((n : Int) + 1)).toNat, by omega⟩
  rw [hq] at HPk hq1
  have hqn : q ≤ n := by omega
  have HG := Held.mk hg
  have HT := Held.mk ht
  have HPl := Held.mk (fun W hB => plain_ref wFrame 7 (by decide) (by decide) W (hg.below hB))
  unfold Er.enc at HPl
  clear hl hp h1 h2 h3 h4 hFl hg hx hr hb ha ht hq0 hq hf0
  go_enter Tryd.func7, Tryd.ntmps7
  go_wp2_with fail
  refine HFr.out.mono ?_
  rintro e w1 ⟨v1, rfl, ho1, hb1⟩
  obtain ⟨g, cf, rfl, _, _⟩ := World.ownsRow.form (h := ho1) (by omega)
  have HO1 := Held.mk ho1
  have HB1 := Held.mk hb1
  have HLF := Held.mk hF0
  generalize hLF : F.length = LF at *
  have HLL := Held.mk hLF
  subst hF0
  have hs0 : ((f0 + 4 + n : Nat) : Int) - (n : Int) = (f0 : Int) + 4 := by omega
  have hs1 : IntKind.i64.wrap ((f0 : Int) + 4) = (f0 : Int) + 4 := IntWalk.i64_in _ ⟨by omega, by omega⟩
  have hs2 : IntKind.i64.wrap ((n : Int) + 1) = (n : Int) + 1 := IntWalk.i64_in _ ⟨by omega, by omega⟩
  have hf6 : (6 : Int) ≤ (f0 : Int) + 4 := by omega
  clear ho1 hb1 HFr hLF
  go_wp2_with fail
  refine (works_any w1).mono ?_
  rintro e w2 ⟨rfl, hb2⟩
  have HO2 := Held.mk ((Keep.of_below hb2 (fun _ => False)).own HO1.out (fun _ _ h => h))
  have HB2 := Held.mk (HB1.out.trans (hb2.mono HB1.out.size))
  clear hb2
  go_wp2_with fail
  refine (HPk.out w2).mono ?_
  rintro e w3 ⟨rfl, rfl⟩
  have hLI : ((f0 + 4 + n : Nat) : Int) = (f0 : Int) + 4 + (n : Int) := by omega
  by_cases hqe : q = n
  · subst hqe
    have hqq : ((q : Int) == (q : Int)) = true := beq_self_eq_true _
    obtain ⟨a, ha⟩ : ∃ a : Int, a = -4 := ⟨_, rfl⟩
    obtain ⟨pos, hpos⟩ : ∃ pos : Nat, pos = f0 := ⟨_, rfl⟩
    obtain ⟨j, hj⟩ : ∃ j : Nat, j = 4 := ⟨_, rfl⟩
    have HCd : Held ((f0 + 4 ≤ pos ∧ pos + j ≤ f0 + 4 + q) ∨ (pos = f0 ∧ j = 4)) := ⟨.inr ⟨hpos, hj⟩⟩
    have hpa : (f0 : Int) + 4 + a = (pos : Int) := by omega
    have hjn : pos + j ≤ f0 + 4 + q := by omega
    have HJ : Held (∀ i : Nat, i < j → (i : Int) < 4 ∧ a + (i : Int) < (q : Int)) := ⟨fun i hi => by omega⟩
    have hj4 : j ≤ 4 := by omega
    have hja : (j : Int) = 4 ∨ (q : Int) ≤ a + (j : Int) := by omega
    have hab : -4 ≤ a ∧ a ≤ 65536 := by omega
    go_wp2_with fail
    rw [← ha]
    clear ha hpos hj hqq
    go_loopw [12, 13] (fun ch i wr => ∃ (i' c' : Nat), i = .int .i64 i' ∧ ch = .int .u8 c' ∧ i' ≤ j ∧ Held (c' < 256) ∧ Held (c' = 0 ↔ ∀ t, t < i' → tby tn t = 0) ∧ Held (OwnN wr w.heap.size 5 .u8 (.slice (some ⟨g, 0, none⟩) (f0 + 4 + q) cf) (flip F (tby tn) pos i')) ∧ Held (Below w.heap.size w wr)) (fun _ i _ => 4 - (intOf i).toNat)
    case atStart => exact ⟨0, 0, rfl, rfl, Nat.zero_le _, ⟨by decide⟩, ⟨by simp⟩, ⟨by rw [flip_zero]; exact HO2.out⟩, HB2⟩
    case round =>
      obtain ⟨i, ch, rfl, rfl, hij, HC, HZ, HO, HB⟩ := hrel
      by_cases hlt : i < j
      · obtain ⟨hi4, hin⟩ := HJ.out i hlt
        have hsp := shr_pow tn i
        have hcl : (flip F (tby tn) pos i).length = f0 + 4 + q := by rw [flip_length F (tby tn) pos i (by have := HLL.out; omega), HLL.out]
        have hbz := HFB.out.getD (pos + i)
        have hcell : wr.cell? ⟨g, pos + i, none⟩ = some (.int .u8 (F.getD (pos + i) 0)) := by
          have h1 := HO.out
          unfold OwnN at h1
          rw [hcl] at h1
          rw [h1.cellAt (pos + i) (by omega)]
          have h2 := flip_at F (tby tn) pos i (by have := HLL.out; omega)
          rw [List.getD_eq_getElem?_getD, List.getElem?_eq_getElem (by omega)] at h2
          simp only [Option.getD_some] at h2
          simp only [nums, List.getElem?_map, List.getElem?_eq_getElem (show pos + i < (flip F (tby tn) pos i).length by omega), Option.map_some, h2]
        have hfro : wr.frozen? ⟨g, pos + i, none⟩ = false := by
          have h1 := HO.out
          unfold OwnN at h1
          rw [hcl] at h1
          exact h1.frozenAt _
        have HO' := Held.mk (burst_step HO.out HLL.out.symm (by omega))
        have hgw : w.heap.size ≤ g := own_ge HO.out g rfl
        have HB' : Held (Below w.heap.size w (wr.setCell ⟨g, pos + i, none⟩ (.int .u8 ((F.getD (pos + i) 0).toNat ^^^ tby tn i : Nat)))) := ⟨((Keep.of_below HB.out (fun _ => False)).then ((Keep.refl (fun k => k = g) wr).setCell (p := ⟨g, pos + i, none⟩) (fun _ => rfl) _) (fun k hk h => by omega)).to_below (fun _ _ h => h)⟩
        obtain ⟨zn, hzn⟩ : ∃ zn : Nat, F.getD (pos + i) 0 = (zn : Int) := ⟨(F.getD (pos + i) 0).toNat, by omega⟩
        rw [hzn, Int.toNat_natCast] at HO' HB'
        rw [hzn] at hcell hbz
        have hty : (tn : Int) / 256 ^ i % 256 = ((tby tn i : Nat) : Int) := by simp [tby]
        have hyl := tby_lt tn i
        have HZ' : Held ((ch ||| tby tn i) = 0 ↔ ∀ t, t < i + 1 → tby tn t = 0) := ⟨by
          rw [Nat.or_eq_zero_iff, HZ.out]
          constructor
          · rintro ⟨h1, h2⟩ t ht
            rcases Nat.lt_or_ge t i with h | h
            · exact h1 t h
            · obtain rfl : t = i := by omega
              exact h2
          · exact fun h => ⟨fun t ht => h t (by omega), h i (by omega)⟩⟩
        have hch := HC.out
        generalize tby tn i = y at *
        have hxor := u8_xor_nat zn y (by omega) hyl
        have hor := u8_or_nat ch y hch hyl
        have HC' : Held ((ch ||| y) < 256) := ⟨Nat.or_lt_two_pow (n := 8) hch hyl⟩
        have hk1 : IntKind.i64.wrap (a + (i : Int)) = a + (i : Int) := IntWalk.i64_in _ ⟨by omega, by omega⟩
        have hk2 : IntKind.i64.wrap ((pos : Int) + (i : Int)) = (pos : Int) + (i : Int) := IntWalk.i64_in _ ⟨by omega, by omega⟩
        have hk3 : IntKind.i64.wrap (pos : Int) = (pos : Int) := IntWalk.i64_in _ ⟨by omega, by omega⟩
        have hix : (pos : Int) + (i : Int) < (f0 : Int) + 4 + (q : Int) := by omega
        have hix2 : pos + i < f0 + 4 + q := by omega
        have hyI : (y : Int) < 256 := by omega
        have hzI : (zn : Int) < 256 := by omega
        clear hcl hbz hzn hgw HC HZ HO HB hch hyl
        go_wp2
        go_roundw
        case rel => exact ⟨i + 1, _, by go_num, rfl, by omega, HC', HZ', HO', HB'⟩
        case measure => simp [intOf]; omega
      · obtain rfl : i = j := by omega
        have hex : ((i : Int) < 4 → ¬ a + (i : Int) < (q : Int)) := by omega
        have hk1 : IntKind.i64.wrap (a + (i : Int)) = a + (i : Int) := IntWalk.i64_in _ ⟨by omega, by omega⟩
        by_cases hz : ch = 0
        · subst hz
          by_cases hi4 : (i : Int) < 4
          · have hin := hex hi4
            go_wp2
            go_ret
            exact ⟨rfl, HB.out⟩
          · go_wp2
            go_ret
            exact ⟨rfl, HB.out⟩
        · have hcz : ((ch : Int) == 0) = false := beq_eq_false_iff_ne.2 (by omega)
          have hne : ¬ ∀ t, t < i → tby tn t = 0 := fun h => hz (HZ.out.2 h)
          have hub := unframe_any _ (some ⟨g, 0, none⟩) (f0 + 4 + q) cf (flip F (tby tn) pos i) wr (by
              obtain ⟨A9, c9, e9, _, h9⟩ := RdN.of_own HO.out
              injection e9 with e91 e92 e93
              subst e91
              rw [flip_length F (tby tn) pos i (by have := HLL.out; omega), HLL.out] at h9
              exact h9) (by
              have h1 := HO.out
              obtain ⟨A9, c9, e9, h9, _⟩ := RdN.of_own h1
              injection e9 with e91 e92 e93
              rw [e93]
              omega) (by omega) (flip_byt F (tby tn) (tby_lt tn) pos i HFB.out)
          rw [HU.out pos i hj4 HCd.out hne] at hub
          unfold Er.enc at hub
          have HUb := Held.mk hub
          clear hub hne
          have tail : True := trivial
          by_cases hi4 : (i : Int) < 4
          · have hin := hex hi4
            go_wp2_with fail
            refine HUb.out.mono ?_
            rintro e w5 ⟨v5, rfl, ho5, hb5⟩
            obtain ⟨A5, n5, c5, rfl, hn5, _, _⟩ := rd_own ho5
            obtain rfl : n5 = 0 := hn5.out
            have HB5 := Held.mk (HB.out.trans (hb5.mono HB.out.size))
            clear ho5 hb5
            go_wp2_with fail
            refine (HPl.out w5 HB5.out).mono ?_
            rintro e w6 ⟨rfl, hb6⟩
            have HB6 := Held.mk (HB5.out.trans (hb6.mono HB5.out.size))
            clear hb6
            go_wp2
            go_ret
            exact ⟨rfl, HB6.out⟩
          · skip
            go_wp2_with fail
            refine HUb.out.mono ?_
            rintro e w5 ⟨v5, rfl, ho5, hb5⟩
            obtain ⟨A5, n5, c5, rfl, hn5, _, _⟩ := rd_own ho5
            obtain rfl : n5 = 0 := hn5.out
            have HB5 := Held.mk (HB.out.trans (hb5.mono HB.out.size))
            clear ho5 hb5
            go_wp2_with fail
            refine (HPl.out w5 HB5.out).mono ?_
            rintro e w6 ⟨rfl, hb6⟩
            have HB6 := Held.mk (HB5.out.trans (hb6.mono HB5.out.size))
            clear hb6
            go_wp2
            go_ret
            exact ⟨rfl, HB6.out⟩
  · have hqq : ((q : Int) == (n : Int)) = false := beq_eq_false_iff_ne.2 (by omega)
    obtain ⟨pos, hpos⟩ : ∃ pos : Nat, pos = f0 + 4 + q := ⟨_, rfl⟩
    obtain ⟨j, hj⟩ : ∃ j : Nat, j = min 4 (n - q) := ⟨_, rfl⟩
    have hjn : pos + j ≤ f0 + 4 + n := by omega
    have HCd : Held ((f0 + 4 ≤ pos ∧ pos + j ≤ f0 + 4 + n) ∨ (pos = f0 ∧ j = 4)) := ⟨.inl ⟨by omega, hjn⟩⟩
    have hpa : (f0 : Int) + 4 + (q : Int) = (pos : Int) := by omega
    have HJ : Held (∀ i : Nat, i < j → (i : Int) < 4 ∧ (q : Int) + (i : Int) < (n : Int)) := ⟨fun i hi => by omega⟩
    have hj4 : j ≤ 4 := by omega
    have hja : (j : Int) = 4 ∨ (n : Int) ≤ (q : Int) + (j : Int) := by omega
    have hab : -4 ≤ (q : Int) ∧ (q : Int) ≤ 65536 := by omega
    go_wp2_with fail
    clear hpos hj hqq
    go_loopw [12, 13] (fun ch i wr => ∃ (i' c' : Nat), i = .int .i64 i' ∧ ch = .int .u8 c' ∧ i' ≤ j ∧ Held (c' < 256) ∧ Held (c' = 0 ↔ ∀ t, t < i' → tby tn t = 0) ∧ Held (OwnN wr w.heap.size 5 .u8 (.slice (some ⟨g, 0, none⟩) (f0 + 4 + n) cf) (flip F (tby tn) pos i')) ∧ Held (Below w.heap.size w wr)) (fun _ i _ => 4 - (intOf i).toNat)
    case atStart => exact ⟨0, 0, rfl, rfl, Nat.zero_le _, ⟨by decide⟩, ⟨by simp⟩, ⟨by rw [flip_zero]; exact HO2.out⟩, HB2⟩
    case round =>
      obtain ⟨i, ch, rfl, rfl, hij, HC, HZ, HO, HB⟩ := hrel
      by_cases hlt : i < j
      · obtain ⟨hi4, hin⟩ := HJ.out i hlt
        have hsp := shr_pow tn i
        have hcl : (flip F (tby tn) pos i).length = f0 + 4 + n := by rw [flip_length F (tby tn) pos i (by have := HLL.out; omega), HLL.out]
        have hbz := HFB.out.getD (pos + i)
        have hcell : wr.cell? ⟨g, pos + i, none⟩ = some (.int .u8 (F.getD (pos + i) 0)) := by
          have h1 := HO.out
          unfold OwnN at h1
          rw [hcl] at h1
          rw [h1.cellAt (pos + i) (by omega)]
          have h2 := flip_at F (tby tn) pos i (by have := HLL.out; omega)
          rw [List.getD_eq_getElem?_getD, List.getElem?_eq_getElem (by omega)] at h2
          simp only [Option.getD_some] at h2
          simp only [nums, List.getElem?_map, List.getElem?_eq_getElem (show pos + i < (flip F (tby tn) pos i).length by omega), Option.map_some, h2]
        have hfro : wr.frozen? ⟨g, pos + i, none⟩ = false := by
          have h1 := HO.out
          unfold OwnN at h1
          rw [hcl] at h1
          exact h1.frozenAt _
        have HO' := Held.mk (burst_step HO.out HLL.out.symm (by omega))
        have hgw : w.heap.size ≤ g := own_ge HO.out g rfl
        have HB' : Held (Below w.heap.size w (wr.setCell ⟨g, pos + i, none⟩ (.int .u8 ((F.getD (pos + i) 0).toNat ^^^ tby tn i : Nat)))) := ⟨((Keep.of_below HB.out (fun _ => False)).then ((Keep.refl (fun k => k = g) wr).setCell (p := ⟨g, pos + i, none⟩) (fun _ => rfl) _) (fun k hk h => by omega)).to_below (fun _ _ h => h)⟩
        obtain ⟨zn, hzn⟩ : ∃ zn : Nat, F.getD (pos + i) 0 = (zn : Int) := ⟨(F.getD (pos + i) 0).toNat, by omega⟩
        rw [hzn, Int.toNat_natCast] at HO' HB'
        rw [hzn] at hcell hbz
        have hty : (tn : Int) / 256 ^ i % 256 = ((tby tn i : Nat) : Int) := by simp [tby]
        have hyl := tby_lt tn i
        have HZ' : Held ((ch ||| tby tn i) = 0 ↔ ∀ t, t < i + 1 → tby tn t = 0) := ⟨by
          rw [Nat.or_eq_zero_iff, HZ.out]
          constructor
          · rintro ⟨h1, h2⟩ t ht
            rcases Nat.lt_or_ge t i with h | h
            · exact h1 t h
            · obtain rfl : t = i := by omega
              exact h2
          · exact fun h => ⟨fun t ht => h t (by omega), h i (by omega)⟩⟩
        have hch := HC.out
        generalize tby tn i = y at *
        have hxor := u8_xor_nat zn y (by omega) hyl
        have hor := u8_or_nat ch y hch hyl
        have HC' : Held ((ch ||| y) < 256) := ⟨Nat.or_lt_two_pow (n := 8) hch hyl⟩
        have hk1 : IntKind.i64.wrap ((q : Int) + (i : Int)) = (q : Int) + (i : Int) := IntWalk.i64_in _ ⟨by omega, by omega⟩
        have hk2 : IntKind.i64.wrap ((pos : Int) + (i : Int)) = (pos : Int) + (i : Int) := IntWalk.i64_in _ ⟨by omega, by omega⟩
        have hk3 : IntKind.i64.wrap (pos : Int) = (pos : Int) := IntWalk.i64_in _ ⟨by omega, by omega⟩
        have hix : (pos : Int) + (i : Int) < (f0 : Int) + 4 + (n : Int) := by omega
        have hix2 : pos + i < f0 + 4 + n := by omega
        have hyI : (y : Int) < 256 := by omega
        have hzI : (zn : Int) < 256 := by omega
        clear hcl hbz hzn hgw HC HZ HO HB hch hyl
        go_wp2
        go_roundw
        case rel => exact ⟨i + 1, _, by go_num, rfl, by omega, HC', HZ', HO', HB'⟩
        case measure => simp [intOf]; omega
      · obtain rfl : i = j := by omega
        have hex : ((i : Int) < 4 → ¬ (q : Int) + (i : Int) < (n : Int)) := by omega
        have hk1 : IntKind.i64.wrap ((q : Int) + (i : Int)) = (q : Int) + (i : Int) := IntWalk.i64_in _ ⟨by omega, by omega⟩
        by_cases hz : ch = 0
        · subst hz
          by_cases hi4 : (i : Int) < 4
          · have hin := hex hi4
            go_wp2
            go_ret
            exact ⟨rfl, HB.out⟩
          · go_wp2
            go_ret
            exact ⟨rfl, HB.out⟩
        · have hcz : ((ch : Int) == 0) = false := beq_eq_false_iff_ne.2 (by omega)
          have hne : ¬ ∀ t, t < i → tby tn t = 0 := fun h => hz (HZ.out.2 h)
          have hub := unframe_any _ (some ⟨g, 0, none⟩) (f0 + 4 + n) cf (flip F (tby tn) pos i) wr (by
              obtain ⟨A9, c9, e9, _, h9⟩ := RdN.of_own HO.out
              injection e9 with e91 e92 e93
              subst e91
              rw [flip_length F (tby tn) pos i (by have := HLL.out; omega), HLL.out] at h9
              exact h9) (by
              have h1 := HO.out
              obtain ⟨A9, c9, e9, h9, _⟩ := RdN.of_own h1
              injection e9 with e91 e92 e93
              rw [e93]
              omega) (by omega) (flip_byt F (tby tn) (tby_lt tn) pos i HFB.out)
          rw [HU.out pos i hj4 HCd.out hne] at hub
          unfold Er.enc at hub
          have HUb := Held.mk hub
          clear hub hne
          have tail : True := trivial
          by_cases hi4 : (i : Int) < 4
          · have hin := hex hi4
            go_wp2_with fail
            refine HUb.out.mono ?_
            rintro e w5 ⟨v5, rfl, ho5, hb5⟩
            obtain ⟨A5, n5, c5, rfl, hn5, _, _⟩ := rd_own ho5
            obtain rfl : n5 = 0 := hn5.out
            have HB5 := Held.mk (HB.out.trans (hb5.mono HB.out.size))
            clear ho5 hb5
            go_wp2_with fail
            refine (HPl.out w5 HB5.out).mono ?_
            rintro e w6 ⟨rfl, hb6⟩
            have HB6 := Held.mk (HB5.out.trans (hb6.mono HB5.out.size))
            clear hb6
            go_wp2
            go_ret
            exact ⟨rfl, HB6.out⟩
          · skip
            go_wp2_with fail
            refine HUb.out.mono ?_
            rintro e w5 ⟨v5, rfl, ho5, hb5⟩
            obtain ⟨A5, n5, c5, rfl, hn5, _, _⟩ := rd_own ho5
            obtain rfl : n5 = 0 := hn5.out
            have HB5 := Held.mk (HB.out.trans (hb5.mono HB.out.size))
            clear ho5 hb5
            go_wp2_with fail
            refine (HPl.out w5 HB5.out).mono ?_
            rintro e w6 ⟨rfl, hb6⟩
            have HB6 := Held.mk (HB5.out.trans (hb6.mono HB5.out.size))
            clear hb6
            go_wp2
            go_ret
            exact ⟨rfl, HB6.out⟩
theorem burst_any (a0 : Int) (A1 : Option Addr) (n1 c1 : Nat) (ps : List Int) (a2 a3 : Int) (w : World) (hg : Laid w) (hx : (Lit.int .u64 a0).wf = true) (hr1 : RdN w (fun k => k < w.heap.size) .u8 A1 n1 ps)
    (hb1 : ∀ x ∈ ps, (Lit.int .u8 x).wf = true) (h2 : (Lit.int .i64 a2).wf = true) (h3 : (Lit.int .u32 a3).wf = true) :
    Calls Tryd.prog 7 #[.int .u64 a0, .slice A1 n1 c1, .int .i64 a2, .int .u32 a3] w fun e w' => e = .returned (.bool true) ∧ Below w.heap.size w w' := by
  obtain ⟨h0, hU⟩ := wf_u64 hx
  obtain ⟨x, rfl⟩ : ∃ x : Nat, a0 = (x : Int) := ⟨a0.toNat, by omega⟩
  rw [Int.toNat_natCast] at hU
  simp [Lit.wf, IntKind.min, IntKind.max, IntKind.signed, IntKind.bits] at h2 h3
  obtain ⟨t, rfl⟩ : ∃ t : Nat, a3 = (t : Int) := ⟨a3.toNat, by omega⟩
  by_cases hn : 65536 < n1
  · exact burst_no x A1 n1 c1 a2 t w hn
  · exact burst_in x A1 n1 c1 ps a2 t w hg hU hr1 (bytesW hb1) (by omega) ⟨by omega, by omega⟩ (by omega)
end Wire
end Go.Proofs.YthkhemcbkcoliaaDoor
