/- works: walked. -/
import Derived.Test.YtihgmlcmdpmhhaaDoorJn
import Derived.Test.YtihgmlcmdpmhhaaDoorErj
import Derived.Lib.SlBytesConst
import Derived.Test.YtihgmlcmdpmhhaaDoorScc
import Derived.Test.YtihgmlcmdpmhhaaDoorApb
namespace Go.Proofs.YtihgmlcmdpmhhaaDoor
set_option linter.unusedVariables false
set_option linter.unusedSimpArgs false
namespace Jrn
open Go.RowKit Mem Apn Wire Aps
theorem rd_bytesF (W : World) (L : List Int) (n : Nat) (h : L.length = n) (fr : Nat × Nat) : RdN (W.alloc (.cells (nums .u8 L).toArray 5 fr)) (fun b => b = W.heap.size) .u8 (some ⟨W.heap.size, 0, none⟩) n L := by
  subst h
  exact ⟨by simp [nums], fun _ => ⟨_, rfl, rfl, World.news_of_block (cs := (nums .u8 L).toArray) (t := 5) (fr := fr) (heap_alloc_new _ _)⟩⟩
def rAB : List Int := [97, 98]
def wF1 : List Int := frameL 1 rAB
def wF2 : List Int := frameL 2 []
theorem frameL_le (x : Nat) (ps : List Int) (hx : U64 x) (hp : ps.length ≤ 65536) : (frameL x ps).length ≤ ps.length + 22 := by
  rw [frameL_length]
  have f1 := form_length ps.length (by unfold U64; omega)
  have f2 := form_length x hx
  omega
theorem byt_ab : Byt rAB := by intro c hc; simp [rAB] at hc; omega
theorem f1_le : wF1.length ≤ 24 := frameL_le 1 rAB (by unfold U64; omega) (by decide)
theorem f2_le : wF2.length ≤ 24 := Nat.le_trans (frameL_le 2 [] (by unfold U64; omega) (by decide)) (by decide)
theorem byt_f1 : Byt wF1 := Byt.frameL (by unfold U64; omega) (by decide) byt_ab
theorem byt_f2 : Byt wF2 := Byt.frameL (by unfold U64; omega) (by decide) (by intro c hc; simp at hc)
theorem scan_f1 : scan wF1 = ([rAB], wF1.length, .w .ok) := by
  have := scan_frs [rAB] (by intro r hr; simp at hr; subst hr; exact ⟨by decide, byt_ab⟩) (by simp)
  have e : frs 0 [rAB] = wF1 := by simp [frs, wF1]
  rw [e] at this
  exact this
theorem scan_nil : scan [] = ([], 0, .w .ok) := by simp [scan, scanR]
def mkS (B D : List Int) (l : Nat) (d : Bool) (f : Nat) : DS := ⟨B, D, l, d, f, 0, 0⟩
theorem mkS_good (B D : List Int) (l : Nat) (d : Bool) (f : Nat) (h1 : l ≤ B.length) (h2 : B.length ≤ 1000) (h3 : D.length ≤ 1000) (h4 : f ≤ 1000) : (mkS B D l d f).Good :=
  ⟨h1, by simp only [mkS]; omega, by simp only [mkS]; omega, by simp only [mkS]; omega, by simp [mkS], by simp [mkS]⟩
theorem w1_ : newS [] = mkS [] [] 0 false 0 := rfl
theorem w2_ : openS (mkS [] [] 0 false 0) = (mkS [] [] 0 false 0, true) := by
  rw [openS_idle rfl rfl]; unfold openI
  have : (scan (mkS [] [] 0 false 0).B) = ([], 0, .w .ok) := scan_nil
  rw [this]; rfl
theorem w3_ : openJ (mkS [] [] 0 false 0) = ⟨0, 0, 0⟩ := by
  unfold openJ; rw [w2_]
  have : (scan (mkS [] [] 0 false 0).B) = ([], 0, .w .ok) := scan_nil
  rw [this]; rfl
theorem w4_ : appS (mkS [] [] 0 false 0) ⟨0, 0, 0⟩ rAB = (mkS wF1 [] 0 false 0, ⟨0, 1, 0⟩, 1, .nilIface) := by
  rw [appS_idle rfl rfl rfl (by decide) (by have : (frameL (0 + 1) rAB).length ≤ 24 := f1_le; show ([] : List Int).length + (frameL (0 + 1) rAB).length ≤ 67108864; simp only [List.length_nil]; omega)]; rfl
theorem w5_ : jsyncS (mkS wF1 [] 0 false 0) ⟨0, 1, 0⟩ = (mkS wF1 wF1 wF1.length false 0, ⟨0, 1, 1⟩, 1, .nilIface) := by
  rw [jsyncS_idle rfl rfl rfl]; rfl
theorem w6_ : appS (mkS wF1 wF1 wF1.length false 0) ⟨0, 1, 1⟩ [] = (mkS (wF1 ++ wF2) wF1 wF1.length false 0, ⟨0, 2, 1⟩, 2, .nilIface) := by
  rw [appS_idle rfl rfl rfl (by decide) (by have : (frameL (1 + 1) []).length ≤ 24 := f2_le; have := f1_le; show wF1.length + (frameL (1 + 1) []).length ≤ 67108864; omega)]; rfl
theorem w7_ : crashS (mkS (wF1 ++ wF2) wF1 wF1.length false 0) 0 = mkS wF1 wF1 wF1.length true 1 := by simp [crashS, failS, leftS, mkS]
theorem w8_ : appS (mkS wF1 wF1 wF1.length true 1) ⟨0, 2, 1⟩ [] = (mkS wF1 wF1 wF1.length true 1, ⟨0, 2, 1⟩, 0, deadV wAppend) := by
  unfold appS; rw [if_pos (by decide)]
theorem w9_ : reviveS (mkS wF1 wF1 wF1.length true 1) = mkS wF1 wF1 wF1.length false 1 := rfl
theorem wA_ : openS (mkS wF1 wF1 wF1.length false 1) = (mkS wF1 wF1 wF1.length false 1, true) := by
  rw [openS_idle rfl rfl]; unfold openI
  have : (scan (mkS wF1 wF1 wF1.length false 1).B) = ([rAB], wF1.length, .w .ok) := scan_f1
  rw [this, if_neg (by simp [mkS])]; rfl
theorem strAB : strOfNums rAB = ⟨#[97, 98]⟩ := by decide
set_option maxHeartbeats 4000000 in
set_option maxRecDepth 100000 in
theorem works_any (w : World) : Calls Tryd.prog 12 #[] w fun e w' => e = .returned (.bool true) ∧ Below w.heap.size w w' := by
  have HN := Held.mk (dn_new (fun _ => False) none 0 0 [] w RdV.none_ (by omega))
  go_enter Tryd.func12, Tryd.ntmps12
  go_wp2_with fail
  refine HN.out.mono ?_
  rintro e w1 ⟨P, rfl, hD1, hB1⟩
  rw [w1_] at hD1
  have HK1 : Held (From w.heap.size w w1) := ⟨From.of_below hB1⟩
  have HO := Held.mk (dn_open w.heap.size P _ w1 hD1 (mkS_good [] [] 0 false 0 (by simp) (by simp) (by simp) (by simp)) (by simp [mkS]) (by simp [mkS]) (by intro c hc; simp [mkS] at hc) (by rw [w2_]) hB1.size)
  rw [w2_, w3_, show (scan (mkS [] [] 0 false 0).B) = ([], 0, .w .ok) from scan_nil] at HO
  clear hD1 hB1 HN
  go_wp2_with fail
  refine HO.out.mono ?_
  rintro e w2 ⟨J, v, rfl, hR2, hJ2, hK2⟩
  obtain ⟨Av, cv, rfl⟩ : ∃ A c, v = .slice A 0 c := by obtain ⟨a, c, h, _⟩ := hR2.slc; exact ⟨a, c, h⟩
  have HJ2 := Held.mk hJ2
  have HK2 : Held (From w.heap.size w w2) := ⟨HK1.out.trans hK2⟩
  clear hR2 hJ2 hK2 HO HK1
  go_wp2_with fail
  have hcv : ∀ (W : World) (C : Array Value) (n c : Nat), (convert 22 22 (.slice (some ⟨W.heap.size, 0, none⟩) n c)).run Tryd.prog (W.alloc (.cells C 5)) = .ok (.slice (some ⟨W.heap.size, 0, none⟩) n c) (W.alloc (.cells C 5 (C.size, C.size + 1))) := fun W C n c => Lib.run_convert_bytes_const W 22 5 C n c Tryd.underlying22 Tryd.underlying5
  rw [hcv]
  have HR3 := Held.mk (rd_bytesF w2 rAB 2 rfl (2, 3))
  have hb3 : Below w2.heap.size w2 (w2.alloc (.cells #[.int .u8 97, .int .u8 98] 5 (2, 3))) := (Below.refl _ _).alloc (Nat.le_refl _) _
  have HA := Held.mk (jn_append w.heap.size J P _ _ _ (some ⟨w2.heap.size, 0, none⟩) 2 2 rAB (w2.alloc (.cells #[.int .u8 97, .int .u8 98] 5 (2, 3))) (HJ2.out.below hb3) (mkS_good [] [] 0 false 0 (by simp) (by simp) (by simp) (by simp)) HR3.out byt_ab (by omega) (by simp) (Nat.le_trans HK2.out.size hb3.size))
  rw [w4_] at HA
  have HK3 : Held (From w.heap.size w (w2.alloc (.cells #[.int .u8 97, .int .u8 98] 5 (2, 3)))) := ⟨HK2.out.trans (Keep.of_below hb3 _)⟩
  clear hb3 HJ2 HK2 HR3 hcv
  go_wp2_with fail
  refine HA.out.mono ?_
  rintro e w4 ⟨rfl, hJ, hK⟩
  have HK4 : Held (From w.heap.size w w4) := ⟨HK3.out.trans hK⟩
  have HS := Held.mk (jn_sync w.heap.size J P _ _ w4 hJ (mkS_good wF1 [] 0 false 0 (by simp) (by have := f1_le; omega) (by simp) (by simp)) HK4.out.size)
  rw [w5_] at HS
  clear hJ hK HK3 HA
  go_wp2_with fail
  refine HS.out.mono ?_
  rintro e w5 ⟨rfl, hJ, hK⟩
  have HK5 : Held (From w.heap.size w w5) := ⟨HK4.out.trans hK⟩
  have HA := Held.mk (jn_append w.heap.size J P _ _ (fun _ => False) none 0 0 [] w5 hJ (mkS_good wF1 wF1 wF1.length false 0 (Nat.le_refl _) (by have := f1_le; omega) (by have := f1_le; omega) (by simp)) RdV.none_ (by intro c hc; simp at hc) (by omega) (by simp) HK5.out.size)
  rw [w6_] at HA
  clear hJ hK HK4 HS
  go_wp2_with fail
  refine HA.out.mono ?_
  rintro e w6 ⟨rfl, hJ, hK⟩
  have HK6 : Held (From w.heap.size w w6) := ⟨HK5.out.trans hK⟩
  have HL := Held.mk (jn_last w.heap.size J P _ _ w6 hJ)
  clear hJ hK HK5 HA
  simp only at HL
  go_wp2_with fail
  refine HL.out.mono ?_
  rintro e w7 ⟨rfl, hJ, hb⟩
  have HK7 : Held (From w.heap.size w w7) := ⟨HK6.out.trans (Keep.of_below hb _)⟩
  have HC := Held.mk (jn_crash w.heap.size J P _ _ 0 w7 hJ (mkS_good (wF1 ++ wF2) wF1 wF1.length false 0 (by rw [List.length_append]; omega) (by rw [List.length_append]; have := f1_le; have := f2_le; omega) (by have := f1_le; omega) (by simp)) HK7.out.size)
  rw [w7_] at HC
  clear hJ hb HK6 HL
  go_wp2_with fail
  refine HC.out.mono ?_
  rintro e w8 ⟨rfl, hJ, hK⟩
  have HK8 : Held (From w.heap.size w w8) := ⟨HK7.out.trans hK⟩
  have HA := Held.mk (jn_append w.heap.size J P _ _ (fun _ => False) none 0 0 [] w8 hJ (mkS_good wF1 wF1 wF1.length true 1 (Nat.le_refl _) (by have := f1_le; omega) (by have := f1_le; omega) (by simp)) RdV.none_ (by intro c hc; simp at hc) (by omega) (by simp) HK8.out.size)
  rw [w8_] at HA
  unfold deadV at HA
  clear hJ hK HK7 HC
  go_wp2_with fail
  refine HA.out.mono ?_
  rintro e w9 ⟨rfl, hJ, hK⟩
  have HK9 : Held (From w.heap.size w w9) := ⟨HK8.out.trans hK⟩
  have HC := Held.mk (jn_revive w.heap.size J P _ _ w9 hJ)
  rw [w9_] at HC
  clear hJ hK HK8 HA
  go_wp2_with fail
  refine HC.out.mono ?_
  rintro e wa ⟨rfl, hJ, hK⟩
  have HKa : Held (From w.heap.size w wa) := ⟨HK9.out.trans hK⟩
  have HO := Held.mk (dn_open w.heap.size P _ wa hJ.dn (mkS_good wF1 wF1 wF1.length false 1 (Nat.le_refl _) (by have := f1_le; omega) (by have := f1_le; omega) (by simp)) (by have := f1_le; simp only [mkS]; omega) (by simp [mkS]) byt_f1 (by rw [wA_]) HKa.out.size)
  rw [show (scan (mkS wF1 wF1 wF1.length false 1).B) = ([rAB], wF1.length, .w .ok) from scan_f1] at HO
  clear hJ hK HK9 HC
  go_wp2_with fail
  refine HO.out.mono ?_
  rintro e wb ⟨J2, v, rfl, hR, hJ, hK⟩
  have HKb : Held (From w.heap.size w wb) := ⟨HKa.out.trans hK⟩
  have HR := Held.mk hR
  obtain ⟨Av, cv, rfl⟩ : ∃ A c, v = .slice A 1 c := by obtain ⟨a, c, h, _⟩ := hR.slc; exact ⟨a, c, h⟩
  have HNm := Held.mk (Err.num_any _ _ 23 wb (ErJ.isErr_wrong wAppend 23) (by decide) (by decide))
  clear hR hJ hK HKa HO
  go_wp2_with fail
  refine HNm.out.mono ?_
  rintro e wc ⟨rfl, hb⟩
  have HKc : Held (From w.heap.size w wc) := ⟨HKb.out.trans (Keep.of_below hb _)⟩
  have hRc := HR.out.below hb
  obtain ⟨A', c', e', hc', hrd⟩ := hRc.rd
  simp only [Value.slice.injEq] at e'
  obtain ⟨rfl, -, rfl⟩ := e'
  obtain ⟨ad, a, d, rfl, hcl, hd, hrb⟩ := hrd.at_ (j := 0) (by simp)
  have hrb' : RdN wc _ .u8 a 2 rAB := hrb
  have hcl' : wc.cell? (ad.add 0) = some (.slice a 2 d) := hcl
  have ea : ad.add 0 = ad := by unfold Addr.add; rw [if_pos rfl]
  rw [ea] at hcl'
  clear ea
  have hcs := cvtS (P := Tryd.prog) (c := d) 22 9 5 Tryd.underlying22 Tryd.underlying5 Tryd.underlying9 hrb' (by intro x hx; simp [rAB] at hx; omega)
  rw [strAB] at hcs
  clear hb hRc hrd hrb hrb' hcl hc' HR HNm
  go_wp2_with fail
  go_ret
  exact ⟨rfl, HKc.out.to_below⟩
end Jrn
end Go.Proofs.YtihgmlcmdpmhhaaDoor
/- JournalScan: the walk. -/
namespace Go.Proofs.YtihgmlcmdpmhhaaDoor
set_option linter.unusedVariables false
set_option linter.unusedSimpArgs false
namespace Jrn
open Go.RowKit Mem Apn Wire Aps Err AptBytes
def _root_.Go.Proofs.YtihgmlcmdpmhhaaDoor.Wire.Er.fit : Er → Prop
  | .ok => True
  | .no k => 1 ≤ k ∧ k ≤ 24
  | .ref _ k => 1 ≤ k ∧ k ≤ 24
theorem num_fit (b : List Int) : Er.fit (num b).2.2 := by
  cases b with
  | nil => exact ⟨by decide, by decide⟩
  | cons c l =>
    rw [num_cons]
    (repeat' split) <;> simp [Er.fit]
theorem unf_fit (b : List Int) : Er.fit (unf b).2.2.2 := by
  obtain ⟨sz, m, e1, he⟩ : ∃ sz m e, num b = (sz, m, e) := ⟨_, _, _, rfl⟩
  have h1 := num_fit b
  rw [he] at h1
  by_cases hok : e1 = .ok
  · subst hok
    by_cases hs : 65536 < sz
    · rw [unf_many he hs]; exact ⟨by decide, by decide⟩
    · obtain ⟨y, q, e2, he2⟩ : ∃ y q e, num (b.drop m) = (y, q, e) := ⟨_, _, _, rfl⟩
      have h2 := num_fit (b.drop m)
      rw [he2] at h2
      by_cases hok2 : e2 = .ok
      · subst hok2
        rw [unf_good he hs he2]
        split
        · exact ⟨by decide, by decide⟩
        · split
          · exact trivial
          · exact ⟨by decide, by decide⟩
      · rw [unf_bad2 he hs he2 hok2]
        exact h2
  · rw [unf_bad1 he hok]
    exact h1
theorem unf_four (b : List Int) (x : Nat) (ps : List Int) (k : Nat) (h : unf b = (x, ps, k, .ok)) : 4 ≤ k := by
  obtain ⟨sz, m, e1, he⟩ : ∃ sz m e, num b = (sz, m, e) := ⟨_, _, _, rfl⟩
  by_cases hok : e1 = .ok
  · subst hok
    by_cases hs : 65536 < sz
    · rw [unf_many he hs] at h; simp at h
    · obtain ⟨y, q, e2, he2⟩ : ∃ y q e, num (b.drop m) = (y, q, e) := ⟨_, _, _, rfl⟩
      by_cases hok2 : e2 = .ok
      · subst hok2
        rw [unf_good he hs he2] at h
        split at h
        · simp at h
        · split at h
          · simp only [Prod.mk.injEq] at h
            omega
          · simp at h
      · rw [unf_bad2 he hs he2 hok2] at h
        simp only [Prod.mk.injEq] at h
        exact absurd h.2.2.2 hok2
  · rw [unf_bad1 he hok] at h
    simp only [Prod.mk.injEq] at h
    exact absurd h.2.2.2 hok
def Jr.fit : Jr → Prop
  | .w e => e.fit
  | .num => True
theorem scanR_four : ∀ (f k : Nat) (b : List Int), 4 * (scanR f k b).1.length ≤ (scanR f k b).2.1 ∧ (scanR f k b).2.2.fit
  | 0, _, _ => ⟨Nat.le_refl _, trivial⟩
  | f + 1, k, b => by
    unfold scanR
    split
    · exact ⟨Nat.le_refl _, trivial⟩
    · obtain ⟨x, ps, n, e, hu⟩ : ∃ x ps n e, unf b = (x, ps, n, e) := ⟨_, _, _, _, rfl⟩
      have hf := unf_fit b
      rw [hu] at hf ⊢
      cases e with
      | ok =>
        have h1 := unf_four b x ps n hu
        have h5 := scanR_four f (k + 1) (b.drop n)
        simp only
        split
        · exact ⟨by simp only [List.length_cons]; omega, h5.2⟩
        · exact ⟨Nat.le_refl _, trivial⟩
      | no j => exact ⟨Nat.le_refl _, hf⟩
      | ref s j => exact ⟨Nat.le_refl _, hf⟩
theorem plain_jr (e : Jr) (h : e.fit) (w : World) (hg : Laid w) : Calls Tryd.prog 9 #[e.enc, .int .i64 e.code] w fun r w' => r = .returned (.bool true) ∧ Below w.heap.size w w' := by
  cases e with
  | num =>
    have := plain_err _ _ 4 4 w (ErJ.isErr_wrong wNumber 4) (by decide) (by decide) hg
    rw [beq_self_eq_true] at this
    exact this
  | w e =>
    cases e with
    | ok =>
      have := plain_nil 0 w
      rw [beq_self_eq_true] at this
      exact this
    | no k =>
      have := plain_err _ _ k k w (isErr_errno k) h.1 h.2 hg
      rw [beq_self_eq_true] at this
      exact this
    | ref s k =>
      have := plain_err _ _ k k w (isErr_wrong s k) h.1 h.2 hg
      rw [beq_self_eq_true] at this
      exact this
theorem own_front {w : World} {base e g n c m : Nat} {xs : List Value} (h : w.ownsW base e 1 (.slice (some ⟨g, 0, none⟩) n c) n xs) (hm : m ≤ n) : w.ownsW base e 1 (.slice (some ⟨g, 0, none⟩) m c) m (xs.take m) := by
  obtain ⟨h1, ⟨a, _⟩ | ⟨g', cap', cur, a, b, c', d, f, i, ht⟩⟩ := h
  · simp at a
  · simp only [Value.slice.injEq, Option.some.injEq, Addr.mk.injEq, and_true, true_and] at a
    obtain ⟨rfl, rfl⟩ := a
    refine ⟨by rw [List.length_take, h1]; omega, .inr ⟨g, c, cur, rfl, b, c', by omega, f, i, ?_⟩⟩
    rw [← ht, List.take_take]
    congr 1
    omega
/-- One value and two rows of values, as one row. -/
def cat3 (u : Value) (q : Nat) (V1 V2 : Nat → Value) (j : Nat) : Value := if j = 0 then u else if j ≤ q then V1 (j - 1) else V2 (j - 1 - q)
theorem cat3_list (u : Value) (q : Nat) (V1 V2 : Nat → Value) : ([u] ++ (List.range q).map V1) ++ (List.range q).map V2 = (List.range (1 + q + q)).map (cat3 u q V1 V2) := by
  apply List.ext_getElem
  · simp; omega
  · intro i h1 h2
    simp only [List.getElem_map, List.getElem_range, cat3]
    simp only [List.length_append, List.length_map, List.length_range, List.length_singleton] at h1
    by_cases h0 : i = 0
    · subst h0; simp
    · rw [if_neg h0]
      by_cases hq : i ≤ q
      · rw [if_pos hq, List.getElem_append_left (by simp; omega), List.getElem_append_right (by simp; omega)]
        simp
      · rw [if_neg hq, List.getElem_append_right (by simp; omega)]
        simp only [List.length_append, List.length_map, List.length_range, List.length_singleton, List.getElem_map, List.getElem_range]
        congr 1
        omega
end Jrn
end Go.Proofs.YtihgmlcmdpmhhaaDoor
/- JournalScan: the walk itself. -/
namespace Go.Proofs.YtihgmlcmdpmhhaaDoor
set_option linter.unusedVariables false
set_option linter.unusedSimpArgs false
namespace Jrn
open Go.RowKit Mem Apn Wire Aps Err AptBytes
theorem byt_wf {l : List Int} (h : ∀ x ∈ l, (Lit.int .u8 x).wf = true) : Byt l := fun c hc => by
  have := h c hc
  simp [Lit.wf, IntKind.min, IntKind.max, IntKind.signed, IntKind.bits] at this
  omega
theorem Rows.cells {w : World} {base : Nat} {v : Value} {xs : List (List Int)} (h : Rows w base v xs) :
    ∃ (V : Nat → Value) (A : Option Addr) (c : Nat), v = .slice A xs.length c ∧ RdV w (fun k => v.ownBlock = some k) 1 A xs.length ((List.range xs.length).map V) ∧ (∀ j (h : j < xs.length), OwnN w base 5 .u8 (V j) (xs[j]'h)) ∧
      (∀ i j, i < j → j < xs.length → ∀ k, (V i).ownBlock = some k → (V j).ownBlock ≠ some k) ∧ (∀ u ∈ (List.range xs.length).map V, u.oneCell' = true) ∧ (∀ k, v.ownBlock = some k → base ≤ k ∧ k < w.heap.size) := by
  obtain ⟨V, h1, h2, h3⟩ := h.ex
  obtain ⟨A, c, rfl, hc, hr⟩ := RdV.of_own h1
  refine ⟨V, A, c, rfl, hr, h2, h3, ?_, fun k hk => ⟨own_ge h1 k hk, own_lt h1 k hk⟩⟩
  intro u hu
  obtain ⟨j, hj, rfl⟩ := List.mem_map.1 hu
  rw [List.mem_range] at hj
  obtain ⟨a, c', e, _⟩ := own_slc (h2 j hj)
  rw [e]; rfl
/-- The lists that are asked to lie apart: the lent one, and two rows. -/
theorem apart3 (b g n c q : Nat) (V1 V2 : Nat → Value) (bs : List Int) (L : List (List Int)) (w1 w2 w3 w : World) (v : Value) (h12 : w1.heap.size ≤ w2.heap.size) (h23 : w2.heap.size ≤ w3.heap.size) (h3w : w3.heap.size ≤ w.heap.size) (hb1 : b ≤ w1.heap.size)
    (hL : Kit.Lent w b g n c bs) (hg : g < w1.heap.size) (hq : L.length = q) (hV1 : ∀ j (h : j < L.length), OwnN w w1.heap.size 5 .u8 (V1 j) (L[j]'h)) (hV1l : ∀ j, j < q → ∀ k, (V1 j).ownBlock = some k → k < w2.heap.size)
    (hD1 : ∀ i j, i < j → j < L.length → ∀ k, (V1 i).ownBlock = some k → (V1 j).ownBlock ≠ some k)
    (hV2 : ∀ j (h : j < L.length), OwnN w w2.heap.size 5 .u8 (V2 j) (L[j]'h)) (hV2l : ∀ j, j < q → ∀ k, (V2 j).ownBlock = some k → k < w3.heap.size)
    (hD2 : ∀ i j, i < j → j < L.length → ∀ k, (V2 i).ownBlock = some k → (V2 j).ownBlock ≠ some k)
    (hv : w.ownsW w3.heap.size 22 1 v (1 + q + q) (([.slice (some ⟨g, 0, none⟩) n c] ++ (List.range q).map V1) ++ (List.range q).map V2)) (hn : n ≤ 1000000000) (hq2 : q ≤ 400000) (hrec : ∀ r ∈ L, r.length ≤ 65536) :
    Calls Tryd.prog 11 #[v] w fun e w' => e = .returned (.bool true) ∧ Keep (fun k => b ≤ k) w w' := by
  rw [cat3_list] at hv
  obtain ⟨A, cv, rfl, hcv, hr⟩ := RdV.of_own hv
  have hlen : bs.length = n := hL.len
  have hown : w.ownsW b 5 1 (.slice (some ⟨g, 0, none⟩) n c) n (nums .u8 bs) := by
    have h1 := hL.own
    unfold OwnN at h1
    have e1 : (bs ++ Kit.marks 16).length = n + 16 := by rw [List.length_append, hlen, Kit.marks_length]
    rw [e1] at h1
    have h2 := own_front h1 (m := n) (by omega)
    have e2 : (nums .u8 (bs ++ Kit.marks 16)).take n = nums .u8 bs := by
      unfold nums
      rw [List.map_append, List.take_append_of_le_length (by simp [hlen]), List.take_of_length_le (by simp [hlen])]
    rwa [e2] at h2
  have hblk : ∀ j k, j < 1 + q + q → (cat3 (.slice (some ⟨g, 0, none⟩) n c) q V1 V2 j).ownBlock = some k → (j = 0 ∧ k = g) ∨ (1 ≤ j ∧ j ≤ q ∧ w1.heap.size ≤ k ∧ k < w2.heap.size) ∨ (q < j ∧ w2.heap.size ≤ k ∧ k < w3.heap.size) := by
    intro j k hj hk
    unfold cat3 at hk
    by_cases h0 : j = 0
    · rw [if_pos h0] at hk
      simp [Value.ownBlock] at hk
      exact .inl ⟨h0, hk.symm⟩
    · rw [if_neg h0] at hk
      by_cases hjq : j ≤ q
      · rw [if_pos hjq] at hk
        exact .inr (.inl ⟨by omega, hjq, own_ge (hV1 (j - 1) (by omega)) k hk, hV1l (j - 1) (by omega) k hk⟩)
      · rw [if_neg hjq] at hk
        exact .inr (.inr ⟨by omega, own_ge (hV2 (j - 1 - q) (by omega)) k hk, hV2l (j - 1 - q) (by omega) k hk⟩)
  have hgb := hL.ge
  refine (apart_in b (1 + q + q) A cv (cat3 (.slice (some ⟨g, 0, none⟩) n c) q V1 V2) (fun j => if j = 0 then n else if j ≤ q then (L.getD (j - 1) []).length else (L.getD (j - 1 - q) []).length) _ w hr (by omega) ?_ ?_ ?_ (by omega) ?_).mono ?_
  · intro j hj
    unfold cat3
    by_cases h0 : j = 0
    · rw [if_pos h0]; simp only [if_pos h0]; exact ⟨_, hown⟩
    · rw [if_neg h0]; simp only [if_neg h0]
      by_cases hjq : j ≤ q
      · rw [if_pos hjq]; simp only [if_pos hjq]
        have h := own_rebase (hV1 (j - 1) (by omega)) (base' := b) (fun k hk => by have := own_ge (hV1 (j - 1) (by omega)) k hk; omega)
        rw [List.getD_eq_getElem?_getD, List.getElem?_eq_getElem (by omega)]
        exact ⟨_, h⟩
      · rw [if_neg hjq]; simp only [if_neg hjq]
        have h := own_rebase (hV2 (j - 1 - q) (by omega)) (base' := b) (fun k hk => by have := own_ge (hV2 (j - 1 - q) (by omega)) k hk; omega)
        rw [List.getD_eq_getElem?_getD, List.getElem?_eq_getElem (by omega)]
        exact ⟨_, h⟩
  · intro i j hi hj hij k hk1 hk2
    have a1 := hblk i k hi hk1
    have a2 := hblk j k hj hk2
    have hsame : (1 ≤ i ∧ i ≤ q ∧ 1 ≤ j ∧ j ≤ q) ∨ (q < i ∧ q < j) := by omega
    unfold cat3 at hk1 hk2
    rcases hsame with ⟨i1, i2, j1, j2⟩ | ⟨i1, j1⟩
    · rw [if_neg (by omega), if_pos i2] at hk1
      rw [if_neg (by omega), if_pos j2] at hk2
      rcases Nat.lt_or_ge i j with h | h
      · exact hD1 (i - 1) (j - 1) (by omega) (by omega) k hk1 hk2
      · exact hD1 (j - 1) (i - 1) (by omega) (by omega) k hk2 hk1
    · rw [if_neg (by omega), if_neg (by omega)] at hk1
      rw [if_neg (by omega), if_neg (by omega)] at hk2
      rcases Nat.lt_or_ge i j with h | h
      · exact hD2 (i - 1 - q) (j - 1 - q) (by omega) (by omega) k hk1 hk2
      · exact hD2 (j - 1 - q) (i - 1 - q) (by omega) (by omega) k hk2 hk1
  · rintro k ⟨j, hj, hk⟩ hk2
    have := hblk j k hj hk
    have := own_ge hv k hk2
    omega
  · intro j
    have hg : ∀ i, (L.getD i []).length ≤ 65536 := by
      intro i
      rw [List.getD_eq_getElem?_getD]
      rcases Nat.lt_or_ge i L.length with h | h
      · rw [List.getElem?_eq_getElem h]; exact hrec _ (List.getElem_mem _)
      · rw [List.getElem?_eq_none h]; simp
    split
    · omega
    · split
      · have := hg (j - 1); omega
      · have := hg (j - 1 - q); omega
  · rintro e w' ⟨rfl, hk⟩
    refine ⟨rfl, hk.mono ?_⟩
    rintro k _ ⟨j, hj, hk⟩
    have := hblk j k hj hk
    omega
set_option maxHeartbeats 4000000 in
set_option maxRecDepth 100000 in
theorem jscan_any (A : Option Addr) (n c : Nat) (b : List Int) (w : World) (hg : Laid w) (hr : RdN w (fun k => k < w.heap.size) .u8 A n b) (hc : n ≤ c) (hn : n ≤ 1048576) (hb : Byt b) :
    Calls Tryd.prog 3 #[.slice A n c] w fun e w' => e = .returned (.bool true) ∧ Below w.heap.size w w' := by
  have hlen := hr.len
  obtain ⟨L, m, je, hsc⟩ : ∃ L m je, scan b = (L, m, je) := ⟨_, _, _, rfl⟩
  have hft := scan_fits b hb
  have h4 := scanR_four b.length 0 b
  change 4 * (scan b).1.length ≤ (scan b).2.1 ∧ (scan b).2.2.fit at h4
  rw [hsc] at hft h4
  simp only [hlen] at hft h4
  obtain ⟨hmn, _, hRc⟩ := hft
  obtain ⟨hLm, hfit⟩ := h4
  obtain ⟨q, hq⟩ : ∃ q, L.length = q := ⟨_, rfl⟩
  rw [hq] at hLm
  have HG := Held.mk hg
  have HBy := Held.mk hb
  have HSc := Held.mk hsc
  have Hq := Held.mk hq
  have HFit := Held.mk hfit
  have HRc := Held.mk hRc
  have HQ := Held.mk hLm
  have HN := Held.mk hn
  have HM := Held.mk hmn
  have HRd : Held (∀ W, Below w.heap.size w W → RdN W _ .u8 A n b) := ⟨fun W hB => RdV.keep hr (Keep.of_below hB (fun k => ¬ k < w.heap.size)) (fun k h h' => h' h)⟩
  have HLt := Held.mk (Kit.lent_any _ A n c b w hr (by omega))
  have hmm : ((m : Int) != m) = false := by simp
  clear hg hr hb hsc hq hfit hRc hlen hLm hmn
  go_enter Tryd.func3, Tryd.ntmps3
  go_wp2_with fail
  refine HLt.out.mono ?_
  rintro e w1 ⟨g, c1, rfl, hl1, hb1⟩
  have HL1 := Held.mk hl1
  have HB1 := Held.mk hb1
  have hc1 : n ≤ c1 := by have := hl1.cap; omega
  have HS1 := Held.mk (rscan_any _ A n c b w1 (HRd.out _ hb1) hc (by have := HN.out; omega) HBy.out)
  rw [HSc.out] at HS1
  simp only at HS1
  clear hl1 hb1 HLt
  go_wp2_with fail
  refine HS1.out.mono ?_
  rintro e w2 ⟨v0, rfl, hR0, hb2⟩
  have HB2 : Held (Below w.heap.size w w2) := ⟨HB1.out.trans (hb2.mono HB1.out.size)⟩
  have HB12 := Held.mk hb2
  have HR0 := Held.mk hR0
  have HL2 := Held.mk (HL1.out.keep (Keep.of_below hb2 (fun _ => False)) (fun h => h))
  have HS2 := Held.mk (scan_any _ (some ⟨g, 0, none⟩) n c1 b w2 HL2.out.rd hc1 (by have := HN.out; omega) HBy.out)
  rw [HSc.out] at HS2
  simp only at HS2
  clear hR0 hb2 HS1
  go_wp2_with fail
  refine HS2.out.mono ?_
  rintro e w3 ⟨v1, rfl, hR1, hb3⟩
  have HB23 := Held.mk hb3
  have HB3 : Held (Below w.heap.size w w3) := ⟨HB2.out.trans (hb3.mono HB2.out.size)⟩
  have HR1 := Held.mk hR1
  have HL3 := Held.mk (HL2.out.keep (Keep.of_below hb3 (fun _ => False)) (fun h => h))
  have HS3 := Held.mk (scan_any _ (some ⟨g, 0, none⟩) n c1 b w3 HL3.out.rd hc1 (by have := HN.out; omega) HBy.out)
  rw [HSc.out] at HS3
  simp only at HS3
  clear hR1 hb3 HS2
  go_wp2_with fail
  refine HS3.out.mono ?_
  rintro e w4 ⟨v2, rfl, hR2, hb4⟩
  have HB34 := Held.mk hb4
  have HB4 : Held (Below w.heap.size w w4) := ⟨HB3.out.trans (hb4.mono HB3.out.size)⟩
  have HB24 : Held (Below w2.heap.size w2 w4) := ⟨HB23.out.trans (hb4.mono HB23.out.size)⟩
  have HR2 := Held.mk hR2
  have HR04 := Held.mk (HR0.out.below HB24.out)
  have HR14 := Held.mk (HR1.out.below hb4)
  clear hR2 hb4 HS3
  obtain ⟨A0, d0, rfl, hd0, r0⟩ := HR04.out.rd
  obtain ⟨A1, d1, rfl, hd1, r1⟩ := HR14.out.rd
  obtain ⟨A2, d2, rfl, hd2, r2⟩ := HR2.out.rd
  rw [Hq.out] at r0 r1 r2 hd0 hd1 hd2 HR04 HR14 HR2 ⊢
  have hrl : ∀ r ∈ L, r.length ≤ 9223372036854775807 := fun r h => by have := (HRc.out r h).1; omega
  have HE1 := Held.mk (fun m => samerec_any _ _ A1 A0 q q d1 d0 L L (w4.drewN m) (r1.drewN m) (r0.drewN m) (by have := HQ.out; have := HM.out; have := HN.out; omega) (by have := HQ.out; have := HM.out; have := HN.out; omega) hrl hrl)
  have HE2 := Held.mk (fun m => samerec_any _ _ A2 A0 q q d2 d0 L L (w4.drewN m) (r2.drewN m) (r0.drewN m) (by have := HQ.out; have := HM.out; have := HN.out; omega) (by have := HQ.out; have := HM.out; have := HN.out; omega) hrl hrl)
  simp only [decide_true] at HE1 HE2
  clear r0 r1 r2 hrl hd0 hd1 hd2
  go_wp2_with fail
  refine (HE1.out 0).mono ?_
  rintro e w5 ⟨rfl, m5, rfl⟩
  go_wp2_with fail
  refine (HE2.out _).mono ?_
  rintro e w6 ⟨rfl, m6, rfl⟩
  have HB47 : Held (Below w4.heap.size w4 ((w4.drewN m5).drewN m6)) := ⟨below_drewN (below_drewN (Below.refl _ _) _) _⟩
  clear HE1 HE2
  generalize (w4.drewN m5).drewN m6 = w7 at *
  have HB7 : Held (Below w.heap.size w w7) := ⟨HB4.out.trans (HB47.out.mono HB4.out.size)⟩
  have HP1 := Held.mk (plain_jr je HFit.out w7 (HG.out.below HB7.out))
  obtain ⟨ev, hev⟩ : ∃ ev, je.enc = ev := ⟨_, rfl⟩
  obtain ⟨ec, hec⟩ : ∃ ec, je.code = ec := ⟨_, rfl⟩
  have HEv := Held.mk hev
  have HEc := Held.mk hec
  rw [hev, hec] at HP1
  rw [hev, hec]
  clear hev hec
  go_wp2_with fail
  refine HP1.out.mono ?_
  rintro e w8 ⟨rfl, hb8⟩
  have HB8 : Held (Below w.heap.size w w8) := ⟨HB7.out.trans (hb8.mono HB7.out.size)⟩
  have HB48 : Held (Below w4.heap.size w4 w8) := ⟨HB47.out.trans (hb8.mono HB47.out.size)⟩
  have HP2 := Held.mk (plain_jr je HFit.out w8 (HG.out.below HB8.out))
  rw [HEv.out, HEc.out] at HP2
  clear hb8 HP1 HB7 HB47
  go_wp2_with fail
  refine HP2.out.mono ?_
  rintro e w9 ⟨rfl, hb9⟩
  have HB9 : Held (Below w.heap.size w w9) := ⟨HB8.out.trans (hb9.mono HB8.out.size)⟩
  have HB49 : Held (Below w4.heap.size w4 w9) := ⟨HB48.out.trans (hb9.mono HB48.out.size)⟩
  have HB14 : Held (Below w1.heap.size w1 w4) := ⟨HB12.out.trans (HB24.out.mono HB12.out.size)⟩
  have HKp := Held.mk (Kit.kept_any _ A w.heap.size g n c1 c b w9 (HL1.out.keep (Keep.of_below (HB14.out.trans (HB49.out.mono HB14.out.size)) (fun _ => False)) (fun h => h)) (HRd.out _ HB9.out) (by have := HN.out; omega))
  clear hb9 HP2 HB8 HB48
  go_wp2_with fail
  refine HKp.out.mono ?_
  rintro e wa ⟨rfl, ma, rfl⟩
  have HB9a : Held (Below w.heap.size w (w9.drewN ma)) := ⟨below_drewN HB9.out _⟩
  have HB4a : Held (Below w4.heap.size w4 (w9.drewN ma)) := ⟨below_drewN HB49.out _⟩
  clear HKp HB9 HB49
  generalize w9.drewN ma = wa at *
  obtain ⟨V1, A1', c1', e1, hr1, hv1, hd1, ho1, hb1⟩ := HR1.out.cells
  obtain ⟨V2, A2', c2', e2, hr2, hv2, hd2, ho2, hb2⟩ := HR2.out.cells
  simp only [Value.slice.injEq] at e1 e2
  obtain ⟨rfl, -, rfl⟩ := e1
  obtain ⟨rfl, -, rfl⟩ := e2
  rw [Hq.out] at hr1 hr2 ho1 ho2
  have hbx : Below w4.heap.size w4 (wa.alloc (.cells #[.slice (some ⟨g, 0, none⟩) n c1] 22)) := HB4a.out.alloc HB4a.out.size _
  have HO0 : Held ((wa.alloc (.cells #[.slice (some ⟨g, 0, none⟩) n c1] 22)).ownsW w4.heap.size 22 1 (.slice (some ⟨wa.heap.size, 0, none⟩) 1 1) 1 [.slice (some ⟨g, 0, none⟩) n c1]) := ⟨⟨rfl, .inr ⟨wa.heap.size, 1, #[.slice (some ⟨g, 0, none⟩) n c1], rfl, HB4a.out.size, heap_alloc_new _ _, Nat.le_refl _, by simp [maxLen], by simp, by simp⟩⟩⟩
  have HRa := Held.mk (RdV.keep hr1 (Keep.of_below (HB34.out.trans (hbx.mono HB34.out.size)) (fun _ => False)) (fun _ _ h => h))
  have HRb := Held.mk (RdV.keep hr2 (Keep.of_below hbx (fun _ => False)) (fun _ _ h => h))
  have Ho1 := Held.mk ho1
  have Ho2 := Held.mk ho2
  have Hb2 := Held.mk hb2
  have HV := Held.mk (And.intro hv1 (And.intro hd1 (And.intro hv2 hd2)))
  have HBx := Held.mk hbx
  have Hsz : Held (w4.heap.size ≤ (wa.alloc (.cells #[.slice (some ⟨g, 0, none⟩) n c1] 22)).heap.size) := ⟨hbx.size⟩
  have Hal : Held (((1 + q) + (1 + q) / 4 + 192) * 24 ≤ 281474976710656) := ⟨by have := HQ.out; have := HM.out; have := HN.out; omega⟩
  have Hal2 : Held (((1 + q + q) + (1 + q + q) / 4 + 192) * 24 ≤ 281474976710656) := ⟨by have := HQ.out; have := HM.out; have := HN.out; omega⟩
  clear hr1 hv1 hd1 ho1 hb1 hr2 hv2 hd2 ho2 hb2 hbx
  go_wp2_with (first
    | ((at_builtin; (refine Mem.appS _ w4.heap.size rfl (.tmp 72) (.tmp 73) 24 22 (.slice none 0 0) 1 24 rfl Tryd.underlying24 info_rows rfl (by decide) (by decide) _ 1 _ rfl HO0.out _ A1 q d1 _ rfl HRa.out Ho1.out Hal.out Hsz.out ?_)); (intro v3 wb ho3 hg3 hat3); (have HO3 := Held.mk ho3); (have HG3 := Held.mk hg3); (have HRb2 := Held.mk (RdV.keep HRb.out (Keep.of_grown hg3) (fun k hk e => by have := Hb2.out k hk; have := Hsz.out; have e2 := Option.some.inj (show some wa.heap.size = some k from e); have := HB4a.out.size; omega))); (have Hsz3 : Held (w4.heap.size ≤ wb.heap.size) := ⟨Nat.le_trans Hsz.out hg3.size⟩); (obtain ⟨A3, d3, rfl, -⟩ := own_slc ho3); (clear ho3 hg3 hat3 HO0 HRa))
    | ((at_builtin; (refine Mem.appS _ w4.heap.size rfl (.tmp 74) (.tmp 75) 24 22 (.slice none 0 0) 1 24 rfl Tryd.underlying24 info_rows rfl (by decide) (by decide) _ (1 + q) _ rfl HO3.out _ A2 q d2 _ rfl HRb2.out Ho2.out Hal2.out Hsz3.out ?_)); (intro v4 wc ho4 hg4 hat4); (have HO4 := Held.mk ho4); (have HG4 := Held.mk hg4); (clear ho4 hg4 hat4)))
  have kc : Keep (fun k => w4.heap.size ≤ k) w4 wc := ((Keep.of_below HBx.out _).then (Keep.of_grown HG3.out) (fun i _ e => by have e2 := Option.some.inj (show some wa.heap.size = some i from e); have := HB4a.out.size; omega)).then (Keep.of_grown HG4.out) (fun i _ e => own_ge HO3.out i e)
  have hqn : q ≤ 262144 := by have := HQ.out; have := HM.out; have := HN.out; omega
  have s12 := HB12.out.size
  have s23 := HB23.out.size
  have s34 := HB34.out.size
  have s1 := HB1.out.size
  have h14 : Below w1.heap.size w1 w4 := HB12.out.trans (HB24.out.mono s12)
  have hg1 : g < w1.heap.size := own_lt HL1.out.own g rfl
  have hLw : Kit.Lent wc w.heap.size g n c1 b := (HL1.out.keep (Keep.of_below h14 (fun _ => False)) (fun h => h)).keep kc (by omega)
  have HAp := Held.mk (apart3 w.heap.size g n c1 q V1 V2 b L w2 w3 w4 wc v4 s23 s34 kc.size (by omega) hLw (by omega) Hq.out
    (fun j h => kc.own ((Keep.of_below HB34.out (fun _ => False)).own (HV.out.1 j h) (fun _ _ h => h)) (fun k hk => by have := own_lt (HV.out.1 j h) k hk; omega))
    (fun j h k hk => own_lt (HV.out.1 j (by rw [Hq.out]; exact h)) k hk) HV.out.2.1
    (fun j h => kc.own (HV.out.2.2.1 j h) (fun k hk => by have := own_lt (HV.out.2.2.1 j h) k hk; omega))
    (fun j h k hk => own_lt (HV.out.2.2.1 j (by rw [Hq.out]; exact h)) k hk) HV.out.2.2.2 HO4.out (by have := HN.out; omega) (by omega) (fun r h => (HRc.out r h).1))
  have hFrom : From w.heap.size w wc := (Keep.of_below HB4.out _).trans (kc.mono (fun i _ h => by have := HB4.out.size; omega))
  have HFr := Held.mk hFrom
  clear kc hqn s12 s23 s34 s1 h14 hg1 hLw hFrom HG3 HG4 HO3 HO4 HRb HRb2
  go_wp2_with fail
  refine HAp.out.mono ?_
  rintro e wd ⟨rfl, hkd⟩
  have HFd : Held (From w.heap.size w wd) := ⟨HFr.out.trans hkd⟩
  clear hkd HAp
  go_wp2_with fail
  refine (works_any wd).mono ?_
  rintro e we ⟨rfl, hbe⟩
  have HFe : Held (From w.heap.size w we) := ⟨HFd.out.trans (Keep.of_below hbe _)⟩
  clear hbe
  go_wp2_with fail
  go_ret
  exact ⟨rfl, HFe.out.to_below⟩
end Jrn
end Go.Proofs.YtihgmlcmdpmhhaaDoor
