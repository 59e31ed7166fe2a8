/- works: walked. -/
import Derived.Test.YtihgmlcmdpmhhaaJn
import Derived.Test.YtihgmlcmdpmhhaaErj
import Derived.Lib.SlBytesConst
namespace Go.Proofs.Ytihgmlcmdpmhhaa
set_option linter.unusedVariables false
set_option linter.unusedSimpArgs false
namespace Jrn
open Go.RowKit Mem Apn Wire Aps
theorem rd_bytesF (W : World) (L : List Int) (n : Nat) (h : L.length = n) (fr : Nat × Nat) : RdN (W.alloc (.cells (nums .u8 L).toArray 5 fr)) (fun b => b = W.heap.size) .u8 (some ⟨W.heap.size, 0, none⟩) n L := by
  subst h
  exact ⟨by simp [nums], fun _ => ⟨_, rfl, rfl, World.news_of_block (cs := (nums .u8 L).toArray) (t := 5) (fr := fr) (heap_alloc_new _ _)⟩⟩
def rAB : List Int := [97, 98]
def wF1 : List Int := frameL 1 rAB
def wF2 : List Int := frameL 2 []
theorem frameL_le (x : Nat) (ps : List Int) (hx : U64 x) (hp : ps.length ≤ 65536) : (frameL x ps).length ≤ ps.length + 22 := by
  rw [frameL_length]
  have f1 := form_length ps.length (by unfold U64; omega)
  have f2 := form_length x hx
  omega
theorem byt_ab : Byt rAB := by intro c hc; simp [rAB] at hc; omega
theorem f1_le : wF1.length ≤ 24 := frameL_le 1 rAB (by unfold U64; omega) (by decide)
theorem f2_le : wF2.length ≤ 24 := Nat.le_trans (frameL_le 2 [] (by unfold U64; omega) (by decide)) (by decide)
theorem byt_f1 : Byt wF1 := Byt.frameL (by unfold U64; omega) (by decide) byt_ab
theorem byt_f2 : Byt wF2 := Byt.frameL (by unfold U64; omega) (by decide) (by intro c hc; simp at hc)
theorem scan_f1 : scan wF1 = ([rAB], wF1.length, .w .ok) := by
  have := scan_frs [rAB] (by intro r hr; simp at hr; subst hr; exact ⟨by decide, byt_ab⟩) (by simp)
  have e : frs 0 [rAB] = wF1 := by simp [frs, wF1]
  rw [e] at this
  exact this
theorem scan_nil : scan [] = ([], 0, .w .ok) := by simp [scan, scanR]
def mkS (B D : List Int) (l : Nat) (d : Bool) (f : Nat) : DS := ⟨B, D, l, d, f, 0, 0⟩
theorem mkS_good (B D : List Int) (l : Nat) (d : Bool) (f : Nat) (h1 : l ≤ B.length) (h2 : B.length ≤ 1000) (h3 : D.length ≤ 1000) (h4 : f ≤ 1000) : (mkS B D l d f).Good :=
  ⟨h1, by simp only [mkS]; omega, by simp only [mkS]; omega, by simp only [mkS]; omega, by simp [mkS], by simp [mkS]⟩
theorem w1_ : newS [] = mkS [] [] 0 false 0 := rfl
theorem w2_ : openS (mkS [] [] 0 false 0) = (mkS [] [] 0 false 0, true) := by
  rw [openS_idle rfl rfl]; unfold openI
  have : (scan (mkS [] [] 0 false 0).B) = ([], 0, .w .ok) := scan_nil
  rw [this]; rfl
theorem w3_ : openJ (mkS [] [] 0 false 0) = ⟨0, 0, 0⟩ := by
  unfold openJ; rw [w2_]
  have : (scan (mkS [] [] 0 false 0).B) = ([], 0, .w .ok) := scan_nil
  rw [this]; rfl
theorem w4_ : appS (mkS [] [] 0 false 0) ⟨0, 0, 0⟩ rAB = (mkS wF1 [] 0 false 0, ⟨0, 1, 0⟩, 1, .nilIface) := by
  rw [appS_idle rfl rfl rfl (by decide) (by have : (frameL (0 + 1) rAB).length ≤ 24 := f1_le; show ([] : List Int).length + (frameL (0 + 1) rAB).length ≤ 67108864; simp only [List.length_nil]; omega)]; rfl
theorem w5_ : jsyncS (mkS wF1 [] 0 false 0) ⟨0, 1, 0⟩ = (mkS wF1 wF1 wF1.length false 0, ⟨0, 1, 1⟩, 1, .nilIface) := by
  rw [jsyncS_idle rfl rfl rfl]; rfl
theorem w6_ : appS (mkS wF1 wF1 wF1.length false 0) ⟨0, 1, 1⟩ [] = (mkS (wF1 ++ wF2) wF1 wF1.length false 0, ⟨0, 2, 1⟩, 2, .nilIface) := by
  rw [appS_idle rfl rfl rfl (by decide) (by have : (frameL (1 + 1) []).length ≤ 24 := f2_le; have := f1_le; show wF1.length + (frameL (1 + 1) []).length ≤ 67108864; omega)]; rfl
theorem w7_ : crashS (mkS (wF1 ++ wF2) wF1 wF1.length false 0) 0 = mkS wF1 wF1 wF1.length true 1 := by simp [crashS, failS, leftS, mkS]
theorem w8_ : appS (mkS wF1 wF1 wF1.length true 1) ⟨0, 2, 1⟩ [] = (mkS wF1 wF1 wF1.length true 1, ⟨0, 2, 1⟩, 0, deadV wAppend) := by
  unfold appS; rw [if_pos (by decide)]
theorem w9_ : reviveS (mkS wF1 wF1 wF1.length true 1) = mkS wF1 wF1 wF1.length false 1 := rfl
theorem wA_ : openS (mkS wF1 wF1 wF1.length false 1) = (mkS wF1 wF1 wF1.length false 1, true) := by
  rw [openS_idle rfl rfl]; unfold openI
  have : (scan (mkS wF1 wF1 wF1.length false 1).B) = ([rAB], wF1.length, .w .ok) := scan_f1
  rw [this, if_neg (by simp [mkS])]; rfl
theorem strAB : strOfNums rAB = ⟨#[97, 98]⟩ := by decide
set_option maxHeartbeats 4000000 in
set_option maxRecDepth 100000 in
theorem works_any (w : World) : Calls Try.prog 5 #[] w fun e w' => e = .returned (.bool true) ∧ Below w.heap.size w w' := by
  have HN := Held.mk (dn_new (fun _ => False) none 0 0 [] w RdV.none_ (by omega))
  go_enter Try.func5, Try.ntmps5
  go_wp2_with fail
  refine HN.out.mono ?_
  rintro e w1 ⟨P, rfl, hD1, hB1⟩
  rw [w1_] at hD1
  have HK1 : Held (From w.heap.size w w1) := ⟨From.of_below hB1⟩
  have HO := Held.mk (dn_open w.heap.size P _ w1 hD1 (mkS_good [] [] 0 false 0 (by simp) (by simp) (by simp) (by simp)) (by simp [mkS]) (by simp [mkS]) (by intro c hc; simp [mkS] at hc) (by rw [w2_]) hB1.size)
  rw [w2_, w3_, show (scan (mkS [] [] 0 false 0).B) = ([], 0, .w .ok) from scan_nil] at HO
  clear hD1 hB1 HN
  go_wp2_with fail
  refine HO.out.mono ?_
  rintro e w2 ⟨J, v, rfl, hR2, hJ2, hK2⟩
  obtain ⟨Av, cv, rfl⟩ : ∃ A c, v = .slice A 0 c := by obtain ⟨a, c, h, _⟩ := hR2.slc; exact ⟨a, c, h⟩
  have HJ2 := Held.mk hJ2
  have HK2 : Held (From w.heap.size w w2) := ⟨HK1.out.trans hK2⟩
  clear hR2 hJ2 hK2 HO HK1
  go_wp2_with fail
  have hcv : ∀ (W : World) (C : Array Value) (n c : Nat), (convert 23 23 (.slice (some ⟨W.heap.size, 0, none⟩) n c)).run Try.prog (W.alloc (.cells C 5)) = .ok (.slice (some ⟨W.heap.size, 0, none⟩) n c) (W.alloc (.cells C 5 (C.size, C.size + 1))) := fun W C n c => Lib.run_convert_bytes_const W 23 5 C n c Try.underlying23 Try.underlying5
  rw [hcv]
  have HR3 := Held.mk (rd_bytesF w2 rAB 2 rfl (2, 3))
  have hb3 : Below w2.heap.size w2 (w2.alloc (.cells #[.int .u8 97, .int .u8 98] 5 (2, 3))) := (Below.refl _ _).alloc (Nat.le_refl _) _
  have HA := Held.mk (jn_append w.heap.size J P _ _ _ (some ⟨w2.heap.size, 0, none⟩) 2 2 rAB (w2.alloc (.cells #[.int .u8 97, .int .u8 98] 5 (2, 3))) (HJ2.out.below hb3) (mkS_good [] [] 0 false 0 (by simp) (by simp) (by simp) (by simp)) HR3.out byt_ab (by omega) (by simp) (Nat.le_trans HK2.out.size hb3.size))
  rw [w4_] at HA
  have HK3 : Held (From w.heap.size w (w2.alloc (.cells #[.int .u8 97, .int .u8 98] 5 (2, 3)))) := ⟨HK2.out.trans (Keep.of_below hb3 _)⟩
  clear hb3 HJ2 HK2 HR3 hcv
  go_wp2_with fail
  refine HA.out.mono ?_
  rintro e w4 ⟨rfl, hJ, hK⟩
  have HK4 : Held (From w.heap.size w w4) := ⟨HK3.out.trans hK⟩
  have HS := Held.mk (jn_sync w.heap.size J P _ _ w4 hJ (mkS_good wF1 [] 0 false 0 (by simp) (by have := f1_le; omega) (by simp) (by simp)) HK4.out.size)
  rw [w5_] at HS
  clear hJ hK HK3 HA
  go_wp2_with fail
  refine HS.out.mono ?_
  rintro e w5 ⟨rfl, hJ, hK⟩
  have HK5 : Held (From w.heap.size w w5) := ⟨HK4.out.trans hK⟩
  have HA := Held.mk (jn_append w.heap.size J P _ _ (fun _ => False) none 0 0 [] w5 hJ (mkS_good wF1 wF1 wF1.length false 0 (Nat.le_refl _) (by have := f1_le; omega) (by have := f1_le; omega) (by simp)) RdV.none_ (by intro c hc; simp at hc) (by omega) (by simp) HK5.out.size)
  rw [w6_] at HA
  clear hJ hK HK4 HS
  go_wp2_with fail
  refine HA.out.mono ?_
  rintro e w6 ⟨rfl, hJ, hK⟩
  have HK6 : Held (From w.heap.size w w6) := ⟨HK5.out.trans hK⟩
  have HL := Held.mk (jn_last w.heap.size J P _ _ w6 hJ)
  clear hJ hK HK5 HA
  simp only at HL
  go_wp2_with fail
  refine HL.out.mono ?_
  rintro e w7 ⟨rfl, hJ, hb⟩
  have HK7 : Held (From w.heap.size w w7) := ⟨HK6.out.trans (Keep.of_below hb _)⟩
  have HC := Held.mk (jn_crash w.heap.size J P _ _ 0 w7 hJ (mkS_good (wF1 ++ wF2) wF1 wF1.length false 0 (by rw [List.length_append]; omega) (by rw [List.length_append]; have := f1_le; have := f2_le; omega) (by have := f1_le; omega) (by simp)) HK7.out.size)
  rw [w7_] at HC
  clear hJ hb HK6 HL
  go_wp2_with fail
  refine HC.out.mono ?_
  rintro e w8 ⟨rfl, hJ, hK⟩
  have HK8 : Held (From w.heap.size w w8) := ⟨HK7.out.trans hK⟩
  have HA := Held.mk (jn_append w.heap.size J P _ _ (fun _ => False) none 0 0 [] w8 hJ (mkS_good wF1 wF1 wF1.length true 1 (Nat.le_refl _) (by have := f1_le; omega) (by have := f1_le; omega) (by simp)) RdV.none_ (by intro c hc; simp at hc) (by omega) (by simp) HK8.out.size)
  rw [w8_] at HA
  unfold deadV at HA
  clear hJ hK HK7 HC
  go_wp2_with fail
  refine HA.out.mono ?_
  rintro e w9 ⟨rfl, hJ, hK⟩
  have HK9 : Held (From w.heap.size w w9) := ⟨HK8.out.trans hK⟩
  have HC := Held.mk (jn_revive w.heap.size J P _ _ w9 hJ)
  rw [w9_] at HC
  clear hJ hK HK8 HA
  go_wp2_with fail
  refine HC.out.mono ?_
  rintro e wa ⟨rfl, hJ, hK⟩
  have HKa : Held (From w.heap.size w wa) := ⟨HK9.out.trans hK⟩
  have HO := Held.mk (dn_open w.heap.size P _ wa hJ.dn (mkS_good wF1 wF1 wF1.length false 1 (Nat.le_refl _) (by have := f1_le; omega) (by have := f1_le; omega) (by simp)) (by have := f1_le; simp only [mkS]; omega) (by simp [mkS]) byt_f1 (by rw [wA_]) HKa.out.size)
  rw [show (scan (mkS wF1 wF1 wF1.length false 1).B) = ([rAB], wF1.length, .w .ok) from scan_f1] at HO
  clear hJ hK HK9 HC
  go_wp2_with fail
  refine HO.out.mono ?_
  rintro e wb ⟨J2, v, rfl, hR, hJ, hK⟩
  have HKb : Held (From w.heap.size w wb) := ⟨HKa.out.trans hK⟩
  have HR := Held.mk hR
  obtain ⟨Av, cv, rfl⟩ : ∃ A c, v = .slice A 1 c := by obtain ⟨a, c, h, _⟩ := hR.slc; exact ⟨a, c, h⟩
  have HNm := Held.mk (Err.num_any _ _ 23 wb (ErJ.isErr_wrong wAppend 23) (by decide) (by decide))
  clear hR hJ hK HKa HO
  go_wp2_with fail
  refine HNm.out.mono ?_
  rintro e wc ⟨rfl, hb⟩
  have HKc : Held (From w.heap.size w wc) := ⟨HKb.out.trans (Keep.of_below hb _)⟩
  have hRc := HR.out.below hb
  obtain ⟨A', c', e', hc', hrd⟩ := hRc.rd
  simp only [Value.slice.injEq] at e'
  obtain ⟨rfl, -, rfl⟩ := e'
  obtain ⟨ad, a, d, rfl, hcl, hd, hrb⟩ := hrd.at_ (j := 0) (by simp)
  have hrb' : RdN wc _ .u8 a 2 rAB := hrb
  have hcl' : wc.cell? (ad.add 0) = some (.slice a 2 d) := hcl
  have ea : ad.add 0 = ad := by unfold Addr.add; rw [if_pos rfl]
  rw [ea] at hcl'
  clear ea
  have hcs := cvtS (P := Try.prog) (c := d) 23 9 5 Try.underlying23 Try.underlying5 Try.underlying9 hrb' (by intro x hx; simp [rAB] at hx; omega)
  rw [strAB] at hcs
  clear hb hRc hrd hrb hrb' hcl hc' HR HNm
  go_wp2_with fail
  go_ret
  exact ⟨rfl, HKc.out.to_below⟩
end Jrn
end Go.Proofs.Ytihgmlcmdpmhhaa
