/- edged, its first loop: numbers about each end: walked. -/
import Derived.Test.YthkhemcbkcoliaaDoorEd2
import Derived.Test.YthkhemcbkcoliaaDoorSom
import Derived.Test.YthkhemcbkcoliaaDoorWwr
import Derived.Deep.RegionHeld3
import Derived.Test.YthkhemcbkcoliaaDoorShn
namespace Go.Proofs.YthkhemcbkcoliaaDoor
set_option linter.unusedVariables false
set_option linter.unusedSimpArgs false
namespace Wire
open Go.RowKit Mem Apn Err Aps Kit
theorem somes_len : (somes 8).length = 31 := by decide
theorem somes_u64 : ∀ x ∈ somes 8, 0 ≤ x ∧ x ≤ 18446744073709551615 := by decide
theorem some_at {i : Nat} (hi : i < 31) : ∃ x : Nat, (somes 8).getD i 0 = (x : Int) ∧ U64 x := by
  have h := somes_u64 ((somes 8).getD i 0) (by rw [List.getD_eq_getElem?_getD, List.getElem?_eq_getElem (by rw [somes_len]; exact hi)]; exact List.getElem_mem _)
  refine ⟨((somes 8).getD i 0).toNat, by omega, ?_⟩
  unfold U64
  omega
theorem wrap_u64 (z : Int) : ∃ y : Nat, IntKind.u64.wrap z = (y : Int) ∧ U64 y := by
  have h : 0 ≤ IntKind.u64.wrap z ∧ IntKind.u64.wrap z ≤ 18446744073709551615 := by
    simp [IntKind.wrap, IntKind.signed, IntKind.bits]
    omega
  exact ⟨(IntKind.u64.wrap z).toNat, by omega, by unfold U64; omega⟩
theorem rd_puts (W : World) (ps : List Put) (T : TypeId) : RdPut (W.alloc (.cells (ps.flatMap Put.cells).toArray T)) (fun k => k < (W.alloc (.cells (ps.flatMap Put.cells).toArray T)).heap.size) (some ⟨W.heap.size, 0, none⟩) ps :=
  ⟨by
    induction ps with
    | nil => rfl
    | cons p ps ih => rw [List.flatMap_cons, List.length_append, ih, List.length_cons, Put.cells_len]; omega,
   fun _ => ⟨_, rfl, by simp, World.news_of_block (cs := (ps.flatMap Put.cells).toArray) (t := T) (fr := (0, 0)) (heap_alloc_new _ _)⟩⟩
theorem rdG_keep {w w' : World} {A : Option Addr} {gs : List Get} (h : RdGet w (fun k => k < w.heap.size) A gs) (hb : Below w.heap.size w w') : RdGet w' (fun k => k < w'.heap.size) A gs :=
  RdV.mono (RdV.keep h (Keep.of_below hb (fun _ => False)) (fun _ _ h => h)) fun k hk => Nat.lt_of_lt_of_le hk hb.size
def putsE (x y : Nat) : List Put := [⟨0, 0, x, ⟨#[]⟩⟩, ⟨0, 1, x, ⟨#[]⟩⟩, ⟨0, 1, y, ⟨#[]⟩⟩, ⟨0, 9, 0, ⟨#[]⟩⟩]
theorem putsE_plainly (x y : Nat) (hx : U64 x) (hy : U64 y) : Plainly (putsE x y) 4 where
  len := rfl
  one := by omega
  few := by omega
  good := by
    intro p hp
    simp [putsE] at hp
    rcases hp with rfl | rfl | rfl | rfl
    · exact ⟨by simp [I64], by simp [I64], hx, by simp [ByteArray.size]⟩
    · exact ⟨by simp [I64], by simp [I64], hx, by simp [ByteArray.size]⟩
    · exact ⟨by simp [I64], by simp [I64], hy, by simp [ByteArray.size]⟩
    · exact ⟨by simp [I64], by simp [I64], by simp [U64], by simp [ByteArray.size]⟩
  on := by
    intro p hp
    simp [putsE] at hp
    rcases hp with rfl | rfl | rfl | rfl <;> rfl
  s := by
    intro p hp
    simp [putsE] at hp
    rcases hp with rfl | rfl | rfl | rfl <;> rfl
  kind := by
    intro k hk
    have hc : k = 0 ∨ k = 1 ∨ k = 2 := by omega
    rcases hc with rfl | rfl | rfl <;> simp [putsE]
  kinds := by
    intro p hp
    simp [putsE] at hp
    rcases hp with rfl | rfl | rfl | rfl <;> simp
  last := by simp [putsE]
def getsA (x y : Int) : List Get := [⟨0, 0, y, 0⟩, ⟨0, 3, 0, 0⟩, ⟨0, 4, 0, 0⟩, ⟨0, 5, 0, 0⟩, ⟨1, 0, x, 0⟩, ⟨1, 5, 0, 0⟩]
def getsB (z : Int) : List Get := [⟨0, 1, 0, 0⟩, ⟨0, 3, 0, 0⟩, ⟨0, 5, 0, 0⟩, ⟨1, 0, z, 0⟩, ⟨1, 2, 0, 5⟩, ⟨1, 4, 0, 0⟩]
def getsC (t : Int) : List Get := [⟨0, 2, 0, t⟩, ⟨0, 4, 0, 0⟩, ⟨1, 2, 0, -1⟩, ⟨1, 4, 0, 0⟩]
theorem getsA_good (x y : Int) (hx : 0 ≤ x ∧ x ≤ 18446744073709551615) (hy : 0 ≤ y ∧ y ≤ 18446744073709551615) : ∀ p ∈ getsA x y, p.Good := by
  intro p hp
  simp [getsA] at hp
  rcases hp with rfl | rfl | rfl | rfl | rfl | rfl <;> exact ⟨by simp, by simp, by first | exact hx | exact hy | simp, by simp⟩
theorem getsB_good (z : Int) (hz : 0 ≤ z ∧ z ≤ 18446744073709551615) : ∀ p ∈ getsB z, p.Good := by
  intro p hp
  simp [getsB] at hp
  rcases hp with rfl | rfl | rfl | rfl | rfl | rfl <;> exact ⟨by simp, by simp, by first | exact hz | simp, by simp⟩
theorem getsC_good (t : Int) (ht : -9223372036854775808 ≤ t ∧ t ≤ 9223372036854775807) : ∀ p ∈ getsC t, p.Good := by
  intro p hp
  simp [getsC] at hp
  rcases hp with rfl | rfl | rfl | rfl <;> exact ⟨by simp, by simp, by simp, by first | exact ht | simp⟩
set_option maxHeartbeats 8000000 in
set_option maxRecDepth 100000 in
theorem edged_loop1 (W0 : World) (HG : Held (Laid W0)) (Al : Option Addr) (cl : Nat) (HR : Held (RdN W0 (fun k => k < W0.heap.size) .u64 Al 31 (somes 8))) {c0 c3 c4 c5 c6 c7 c8 c9 c10 c11 c12 c13 c14 c15 c16 c17 c18 c19 c20 c21 c22 c23 c24 c25 c26 c27 c28 c29 c30 c31 c32 c33 c34 c35 c36 c37 c38 c39 c40 c41 c42 c43 c44 c45 c46 c47 c48 c49 c50 c51 c52 c53 c54 c55 c56 c57 c58 c59 c60 c61 c62 c63 c64 c65 c66 c67 c68 c69 c70 c71 c72 c73 c74 c75 c76 c77 c78 c79 c80 c81 c82 c83 c84 c85 c86 c87 c88 c89 c90 c91 c92 c93 c94 c95 c96 c97 c98 c99 c100 c101 c102 c103 c104 c105 c106 c107 c108 c109 c110 c111 c112 c113 c114 c115 c116 c117 c118 c119 c120 c121 c122 c123 c124 c125 c126 c127 c128 c129 c130 c131 c132 c133 c134 c135 c136 c137 c138 c139 c140 c141 c142 c143 c144 c145 c146 c147 c148 c149 c150 c151 c152 c153 c154 c155 c156 c157 c158 c159 : Value} {K : Act → World → Prop} {post : Ending → World → Prop}
    (HK : Held (∀ (v0 v2 v3 v4 v5 v6 v7 v8 v13 v14 v15 v16 v17 v18 v19 v20 v21 v22 v23 v24 v25 v26 v27 v28 v29 v30 v31 v32 v33 v34 v35 v36 v37 v38 v39 v40 v41 v42 v43 v44 v45 v46 v47 v48 v49 v50 v51 v52 v53 v54 v55 v56 v57 v58 v59 v60 v61 v62 v63 v64 v65 v66 v67 v68 v69 v70 v71 v72 v73 v74 v75 v76 v77 v78 v79 v80 v81 v82 v83 v84 v85 v86 v87 v88 v89 v90 v91 v92 v93 v94 v95 v96 v97 v98 v99 v100 v101 v102 v103 v104 v105 v106 v107 v108 v109 v110 v111 v112 v113 v114 v115 v116 v117 v118 v119 v120 v121 v122 v123 v124 v125 v126 : Value) (w' : World), Held (Below W0.heap.size W0 w') → K ⟨#[v0, .slice Al 31 cl, v2, v3, v4, v5, v6, v7, v8, c9, c10, c11, c12, v13, v14, v15, v16, v17, v18, v19, v20, v21, v22, v23, v24, v25, v26, v27, v28, v29, v30, v31, v32, v33, v34, v35, v36, v37, v38, v39, v40, v41, v42, v43, v44, v45, v46, v47, v48, v49, v50, v51, v52, v53, v54, v55, v56, v57, v58, v59, v60, v61, v62, v63, v64, v65, v66, v67, v68, v69, v70, v71, v72, v73, v74, v75, v76, v77, v78, v79, v80, v81, v82, v83, v84, v85, v86, v87, v88, v89, v90, v91, v92, v93, v94, v95, v96, v97, v98, v99, v100, v101, v102, v103, v104, v105, v106, v107, v108, v109, v110, v111, v112, v113, v114, v115, v116, v117, v118, v119, v120, v121, v122, v123, v124, v125, v126, c127, c128, c129, c130, c131, c132, c133, c134, c135, c136, c137, c138, c139, c140, c141, c142, c143, c144, c145, c146, c147, c148, c149, c150, c151, c152, c153, c154, c155, c156, c157, c158, c159], []⟩ w')) :
    Code.wp Tryd.prog (.loop (edgedBody 0)) (Exit.inBlock 0 (Exit.then K (bodyPost Tryd.prog Tryd.f31 post))) ⟨#[c0, .slice Al 31 cl, .int .i64 0, c3, c4, c5, c6, c7, c8, c9, c10, c11, c12, c13, c14, c15, c16, c17, c18, c19, c20, c21, c22, c23, c24, c25, c26, c27, c28, c29, c30, c31, c32, c33, c34, c35, c36, c37, c38, c39, c40, c41, c42, c43, c44, c45, c46, c47, c48, c49, c50, c51, c52, c53, c54, c55, c56, c57, c58, c59, c60, c61, c62, c63, c64, c65, c66, c67, c68, c69, c70, c71, c72, c73, c74, c75, c76, c77, c78, c79, c80, c81, c82, c83, c84, c85, c86, c87, c88, c89, c90, c91, c92, c93, c94, c95, c96, c97, c98, c99, c100, c101, c102, c103, c104, c105, c106, c107, c108, c109, c110, c111, c112, c113, c114, c115, c116, c117, c118, c119, c120, c121, c122, c123, c124, c125, c126, c127, c128, c129, c130, c131, c132, c133, c134, c135, c136, c137, c138, c139, c140, c141, c142, c143, c144, c145, c146, c147, c148, c149, c150, c151, c152, c153, c154, c155, c156, c157, c158, c159], []⟩ W0 := by
  have HC : Held (∀ W, Below W0.heap.size W0 W → ∀ k, k < 31 → ∃ ad, Al = some ad ∧ W.cell? (ad.add k) = some (.int .u64 ((somes 8).getD k 0))) := ⟨fun W hB k hk => RdN.at_ (RdN.keep HR.out (Keep.of_below hB (fun k => ¬ k < W0.heap.size)) (fun k h h' => h' h)) hk⟩
  conv => arg 2; arg 1; whnf
  dsimp only
  go_loopw [2] (fun i wr => ∃ k : Nat, i = .int .i64 k ∧ k ≤ 31 ∧ Held (Below W0.heap.size W0 wr)) (fun i _ => 31 - (intOf i).toNat)
  case atStart => exact ⟨0, rfl, by omega, ⟨Below.refl _ _⟩⟩
  case round =>
    obtain ⟨k, rfl, hk, HB⟩ := hrel
    generalize wr = wA at *
    by_cases hlt : k < 31
    · have i9 : decide ((k : Int) < 31) = true := decide_eq_true (by omega)
      obtain ⟨ad, rfl, hcell⟩ := HC.out wA HB.out k hlt
      obtain ⟨x, hx, hU⟩ := some_at hlt
      rw [hx] at hcell
      obtain ⟨y, hneg, hUy⟩ := wrap_u64 (-(x : Int))
      have j0 : 0 ≤ (k : Int) ∧ (k : Int) < 31 := ⟨by omega, by omega⟩
      go_wp2_with fail
      go_region_held3 (fun w' => w'.cell? (ad.add k) = some (.int .u64 x)) (go_keep) (fail)
      have HBb : Held (Below W0.heap.size W0 ((wA.alloc (.cells ((putsE x y).flatMap Put.cells).toArray 98)).drew)) := ⟨below_drw (HB.out.alloc HB.out.size _)⟩
      have HP : Held (RdPut ((wA.alloc (.cells ((putsE x y).flatMap Put.cells).toArray 98)).drew) (fun k => k < ((wA.alloc (.cells ((putsE x y).flatMap Put.cells).toArray 98)).drew).heap.size) (some ⟨wA.heap.size, 0, none⟩) (putsE x y)) := ⟨rd_puts wA (putsE x y) 98⟩
      have hpe : ((putsE x y).flatMap Put.cells).toArray = #[.int .i64 0, .int .i64 0, .int .u64 x, .string ⟨#[]⟩, .int .i64 0, .int .i64 1, .int .u64 x, .string ⟨#[]⟩, .int .i64 0, .int .i64 1, .int .u64 y, .string ⟨#[]⟩, .int .i64 0, .int .i64 9, .int .u64 0, .string ⟨#[]⟩] := rfl
      rw [hpe] at HBb HP
      clear hpe HB
      generalize (wA.alloc (.cells #[.int .i64 0, .int .i64 0, .int .u64 x, .string ⟨#[]⟩, .int .i64 0, .int .i64 1, .int .u64 x, .string ⟨#[]⟩, .int .i64 0, .int .i64 1, .int .u64 y, .string ⟨#[]⟩, .int .i64 0, .int .i64 9, .int .u64 0, .string ⟨#[]⟩] 98)).drew = wB at *
      generalize wA.heap.size = gA at *
      have HWr := Held.mk (writes_any (some ⟨gA, 0, none⟩) 4 4 (putsE x y) wB (putsE_plainly x y hU hUy) HP.out)
      clear HP hcell
      go_wp2_with fail
      refine HWr.out.mono ?_
      rintro e wC ⟨rfl, hbC⟩
      have HBc : Held (Below W0.heap.size W0 wC) := ⟨HBb.out.trans (hbC.mono HBb.out.size)⟩
      obtain ⟨ad', h_, hcell⟩ := HC.out wC HBc.out k hlt
      cases h_
      rw [hx] at hcell
      clear hbC HBb HWr hneg
      go_wp2_with fail
      refine (rput_any wC.heap.size _ [] x wC hU (by simp) (own_nil _ _ _ _) (Nat.le_refl _)).mono ?_
      rintro e wD ⟨vD, rfl, hoD, hgD, hatD⟩
      rw [List.nil_append] at hoD
      have hfl := form_length x hU
      have HFy := Held.mk (Byt.form x hU)
      generalize form x = fx at *
      obtain ⟨Ab, cb, rfl, hcb, hrD⟩ := rd_of_own hoD
      have HBd : Held (Below W0.heap.size W0 wD) := ⟨by
        have h1 := HBc.out.size
        have h2 : Below wC.heap.size wC wD := ((Keep.refl (fun _ => False) wC).grown hgD (fun j hj e => by simp [Value.ownBlock] at e)).to_below (fun _ _ h => h)
        exact HBc.out.trans (h2.mono h1)⟩
      have HRD := Held.mk hrD
      clear hoD hgD hatD hrD hcell HBc
      obtain ⟨fl, hfl'⟩ : ∃ m, fx.length = m := ⟨_, rfl⟩
      rw [hfl'] at HRD hcb hfl ⊢
      go_wp2_with fail
      go_loopw [5] (fun i wr => ∃ n : Nat, i = .int .i64 n ∧ n ≤ fl + 1 ∧ Held (Below wD.heap.size wD wr)) (fun i _ => fl + 1 - (intOf i).toNat)
      case atStart => exact ⟨0, rfl, by omega, ⟨Below.refl _ _⟩⟩
      case round =>
        obtain ⟨n, rfl, hn, HBe⟩ := hrel
        generalize wr = wE at *
        have HWe : Held (Below W0.heap.size W0 wE) := ⟨HBd.out.trans (HBe.out.mono HBd.out.size)⟩
        by_cases hle : n ≤ fl
        · have i5 : decide ((n : Int) ≤ (fl : Int)) = true := decide_eq_true (by omega)
          obtain ⟨ad', h_, hcell⟩ := HC.out wE HWe.out k hlt
          cases h_
          rw [hx] at hcell
          obtain ⟨y1, hsub, hU1⟩ := wrap_u64 ((x : Int) - 1)
          go_wp2_with fail
          go_region_held3 (fun w' => w'.cell? (ad.add k) = some (.int .u64 x)) (go_keep) (fail)
          have HFb : Held (Below wD.heap.size wD ((wE.alloc (.cells ((getsA x y1).flatMap Get.cells).toArray 44)).drew)) := ⟨below_drw (HBe.out.alloc HBe.out.size _)⟩
          have HPa : Held (RdGet ((wE.alloc (.cells ((getsA x y1).flatMap Get.cells).toArray 44)).drew) (fun k => k < ((wE.alloc (.cells ((getsA x y1).flatMap Get.cells).toArray 44)).drew).heap.size) (some ⟨wE.heap.size, 0, none⟩) (getsA x y1)) := ⟨rd_gets wE (getsA x y1) 44⟩
          have hpe : ((getsA x y1).flatMap Get.cells).toArray = #[.int .i64 0, .int .i64 0, .int .u64 y1, .int .i64 0, .int .i64 0, .int .i64 3, .int .u64 0, .int .i64 0, .int .i64 0, .int .i64 4, .int .u64 0, .int .i64 0, .int .i64 0, .int .i64 5, .int .u64 0, .int .i64 0, .int .i64 1, .int .i64 0, .int .u64 x, .int .i64 0, .int .i64 1, .int .i64 5, .int .u64 0, .int .i64 0] := rfl
          rw [hpe] at HFb HPa
          clear hpe
          generalize (wE.alloc (.cells #[.int .i64 0, .int .i64 0, .int .u64 y1, .int .i64 0, .int .i64 0, .int .i64 3, .int .u64 0, .int .i64 0, .int .i64 0, .int .i64 4, .int .u64 0, .int .i64 0, .int .i64 0, .int .i64 5, .int .u64 0, .int .i64 0, .int .i64 1, .int .i64 0, .int .u64 x, .int .i64 0, .int .i64 1, .int .i64 5, .int .u64 0, .int .i64 0] 44)).drew = wF at *
          generalize wE.heap.size = gE at *
          have HWf : Held (Below W0.heap.size W0 wF) := ⟨HBd.out.trans (HFb.out.mono HBd.out.size)⟩
          obtain ⟨z, hadd, hUz⟩ := wrap_u64 ((x : Int) + 1)
          obtain ⟨t, ht⟩ : ∃ t : Int, wrap64 (x : Int) = t := ⟨_, rfl⟩
          have HtI : Held (-9223372036854775808 ≤ t ∧ t ≤ 9223372036854775807) := ⟨by rw [← ht]; unfold wrap64; omega⟩
          have hcF : wF.cell? (ad.add k) = some (.int .u64 (x : Int)) := by
            obtain ⟨ad', h_, hc⟩ := HC.out wF HWf.out k hlt
            cases h_
            rw [hx] at hc
            exact hc
          have hcG : ∀ o, (wF.alloc o).cell? (ad.add k) = some (.int .u64 (x : Int)) := fun o => by
            obtain ⟨ad', h_, hc⟩ := HC.out (wF.alloc o) (HWf.out.alloc HWf.out.size o) k hlt
            cases h_
            rw [hx] at hc
            exact hc
          clear hcell hsub
          go_wp2_with fail
          have HQ : Held (∃ wG, (wF.alloc (.cells #[.int .i64 0, .int .i64 1, .int .u64 0, .int .i64 0, .int .i64 0, .int .i64 3, .int .u64 0, .int .i64 0, .int .i64 0, .int .i64 5, .int .u64 0, .int .i64 0, .int .i64 1, .int .i64 0, .int .u64 z, .int .i64 0, .int .i64 1, .int .i64 2, .int .u64 0, .int .i64 5, .int .i64 1, .int .i64 4, .int .u64 0, .int .i64 0] 44)).alloc (.cells #[.int .i64 0, .int .i64 2, .int .u64 0, .int .i64 t, .int .i64 0, .int .i64 4, .int .u64 0, .int .i64 0, .int .i64 1, .int .i64 2, .int .u64 0, .int .i64 (-1), .int .i64 1, .int .i64 4, .int .u64 0, .int .i64 0] 44) = wG ∧ Below wD.heap.size wD wG ∧ RdGet wG (fun k => k < wG.heap.size) (some ⟨gE, 0, none⟩) (getsA x y1) ∧ RdGet wG (fun k => k < wG.heap.size) (some ⟨wF.heap.size, 0, none⟩) (getsB z) ∧ RdGet wG (fun k => k < wG.heap.size) (some ⟨wF.heap.size + 1, 0, none⟩) (getsC t)) := ⟨⟨_, rfl, by
            have h1 := HFb.out.alloc HFb.out.size (.cells #[.int .i64 0, .int .i64 1, .int .u64 0, .int .i64 0, .int .i64 0, .int .i64 3, .int .u64 0, .int .i64 0, .int .i64 0, .int .i64 5, .int .u64 0, .int .i64 0, .int .i64 1, .int .i64 0, .int .u64 z, .int .i64 0, .int .i64 1, .int .i64 2, .int .u64 0, .int .i64 5, .int .i64 1, .int .i64 4, .int .u64 0, .int .i64 0] 44)
            exact h1.alloc h1.size _, by
            have h2 : Below wF.heap.size wF ((wF.alloc (.cells #[.int .i64 0, .int .i64 1, .int .u64 0, .int .i64 0, .int .i64 0, .int .i64 3, .int .u64 0, .int .i64 0, .int .i64 0, .int .i64 5, .int .u64 0, .int .i64 0, .int .i64 1, .int .i64 0, .int .u64 z, .int .i64 0, .int .i64 1, .int .i64 2, .int .u64 0, .int .i64 5, .int .i64 1, .int .i64 4, .int .u64 0, .int .i64 0] 44)).alloc (.cells #[.int .i64 0, .int .i64 2, .int .u64 0, .int .i64 t, .int .i64 0, .int .i64 4, .int .u64 0, .int .i64 0, .int .i64 1, .int .i64 2, .int .u64 0, .int .i64 (-1), .int .i64 1, .int .i64 4, .int .u64 0, .int .i64 0] 44)) := by
              have h1 := (Below.refl wF.heap.size wF).alloc (Nat.le_refl _) (.cells #[.int .i64 0, .int .i64 1, .int .u64 0, .int .i64 0, .int .i64 0, .int .i64 3, .int .u64 0, .int .i64 0, .int .i64 0, .int .i64 5, .int .u64 0, .int .i64 0, .int .i64 1, .int .i64 0, .int .u64 z, .int .i64 0, .int .i64 1, .int .i64 2, .int .u64 0, .int .i64 5, .int .i64 1, .int .i64 4, .int .u64 0, .int .i64 0] 44)
              exact h1.alloc h1.size _
            exact rdG_keep HPa.out h2, by
            have h1 := rd_gets wF (getsB z) 44
            exact rdG_keep h1 ((Below.refl _ _).alloc (Nat.le_refl _) _), by
            have h1 := rd_gets (wF.alloc (.cells #[.int .i64 0, .int .i64 1, .int .u64 0, .int .i64 0, .int .i64 0, .int .i64 3, .int .u64 0, .int .i64 0, .int .i64 0, .int .i64 5, .int .u64 0, .int .i64 0, .int .i64 1, .int .i64 0, .int .u64 z, .int .i64 0, .int .i64 1, .int .i64 2, .int .u64 0, .int .i64 5, .int .i64 1, .int .i64 4, .int .u64 0, .int .i64 0] 44)) (getsC t) 44
            rw [show (wF.alloc (.cells #[.int .i64 0, .int .i64 1, .int .u64 0, .int .i64 0, .int .i64 0, .int .i64 3, .int .u64 0, .int .i64 0, .int .i64 0, .int .i64 5, .int .u64 0, .int .i64 0, .int .i64 1, .int .i64 0, .int .u64 z, .int .i64 0, .int .i64 1, .int .i64 2, .int .u64 0, .int .i64 5, .int .i64 1, .int .i64 4, .int .u64 0, .int .i64 0] 44)).heap.size = wF.heap.size + 1 by simp] at h1
            exact h1⟩⟩
          obtain ⟨wG, hwG, hbG, hra, hrb, hrc⟩ := HQ.out
          have HBg := Held.mk hbG
          have HWg : Held (Below W0.heap.size W0 wG) := ⟨HBd.out.trans (HBg.out.mono HBd.out.size)⟩
          have hrn : RdN wG (fun k => k < wG.heap.size) .u8 Ab n (fx.take n) := by
            have h0 := rd_keep HRD.out hbG
            have h1 := RdV.front h0 (k := n) (by omega)
            rw [Nat.mul_one] at h1
            unfold RdN
            rw [show nums .u8 (fx.take n) = (nums .u8 fx).take n by simp [nums, List.map_take]]
            exact h1
          have hncb : n ≤ cb := by omega
          have HUN : Held (∀ W, Below wG.heap.size wG W → Calls Tryd.prog 6 #[.slice Ab n cb] W fun e w' => e = .returned (.bool true) ∧ Below wG.heap.size wG w') := ⟨fun W hB =>
            (unframes_any Ab n cb (fx.take n) W (HG.out.below (HWg.out.trans (hB.mono HWg.out.size))) (rd_keep hrn hB) (Byt.wf (HFy.out.take n)) (by omega) hncb).mono fun e w' h => ⟨h.1, hB.trans (h.2.mono hB.size)⟩⟩
          have HRS : Held (∀ gs : List Get, (∀ p ∈ gs, p.Good) → gs.length ≤ 10 → ∀ As m, m = gs.length → RdGet wG (fun k => k < wG.heap.size) As gs → ∀ W, Below wG.heap.size wG W → Calls Tryd.prog 4 #[.slice Ab n cb, .slice Ab n cb, .slice As m m] W fun e w' => e = .returned (.bool true) ∧ Below wG.heap.size wG w') := ⟨fun gs hgs hl As m hm hr W hB =>
            (reads_any Ab Ab As n cb n cb m m (fx.take n) (fx.take n) gs W (HG.out.below (HWg.out.trans (hB.mono HWg.out.size))) (rd_keep hrn hB) (rd_keep hrn hB) (HFy.out.take n) (HFy.out.take n) (by omega) (by omega) hncb hncb hm (by omega) (rdG_keep hr hB) hgs).mono fun e w' h => ⟨h.1, hB.trans (h.2.mono hB.size)⟩⟩
          have HRA : Held (∀ W v, Below wG.heap.size wG W → (v = .slice (some ⟨gE, 0, none⟩) 6 6 ∨ v = .slice (some ⟨wF.heap.size, 0, none⟩) 6 6 ∨ v = .slice (some ⟨wF.heap.size + 1, 0, none⟩) 4 4) → Calls Tryd.prog 4 #[.slice Ab n cb, .slice Ab n cb, v] W fun e w' => e = .returned (.bool true) ∧ Below wG.heap.size wG w') := ⟨fun W v hB hv => by
            have hxI : 0 ≤ (x : Int) ∧ (x : Int) ≤ 18446744073709551615 := by unfold U64 at hU; omega
            have hyI : 0 ≤ (y1 : Int) ∧ (y1 : Int) ≤ 18446744073709551615 := by unfold U64 at hU1; omega
            have hzI : 0 ≤ (z : Int) ∧ (z : Int) ≤ 18446744073709551615 := by unfold U64 at hUz; omega
            rcases hv with rfl | rfl | rfl
            · exact HRS.out _ (getsA_good x y1 hxI hyI) (by simp [getsA]) _ 6 rfl hra W hB
            · exact HRS.out _ (getsB_good z hzI) (by simp [getsB]) _ 6 rfl hrb W hB
            · exact HRS.out _ (getsC_good t HtI.out) (by simp [getsC]) _ 4 rfl hrc W hB⟩
          clear HRS hra hrb hrc hrn HQ HPa hcF hcG hbG HFb HWf ht hadd
          rw [hwG]
          clear hwG
          generalize wF.heap.size = gF at *
          have j1 : 0 ≤ (n : Int) ∧ (n : Int) ≤ (cb : Int) := ⟨by omega, by omega⟩
          have hB : Below wG.heap.size wG wG := Below.refl _ _
          go_region_held3 (fun w' => True) (trivial) (first | (go_at_call 4; refine (HRA.out _ _ (by first | exact hB | exact below_drw hB) (by first | exact .inl rfl | exact .inr (.inl rfl) | exact .inr (.inr rfl))).mono ?_; rintro e w6 ⟨rfl, hb6⟩; have hB := hb6) | (go_at_call 6; refine (HUN.out _ (by first | exact hB | exact below_drw hB)).mono ?_; rintro e w6 ⟨rfl, hb6⟩; have hB := hb6))
          have HB6 : Held (Below wD.heap.size wD w6) := ⟨HBg.out.trans (hB.mono HBg.out.size)⟩
          clear hB hb6 HRA HUN HBg HWg
          go_wp2_with fail
          go_roundw
          case rel => exact ⟨n + 1, by go_num, by omega, HB6⟩
          case measure => simp [intOf] <;> omega
        · have i5 : decide ((n : Int) ≤ (fl : Int)) = false := decide_eq_false_iff_not.2 (by omega)
          go_wp2_with fail
          go_roundw
          case rel => exact ⟨k + 1, by go_num, by omega, HWe⟩
          case measure => simp [intOf] <;> omega
    · have i9 : decide ((k : Int) < 31) = false := decide_eq_false_iff_not.2 (by omega)
      go_wp2_with fail
      exact HK.out _ _ _ _ _ _ _ _ _ _ _ _ _ _ _ _ _ _ _ _ _ _ _ _ _ _ _ _ _ _ _ _ _ _ _ _ _ _ _ _ _ _ _ _ _ _ _ _ _ _ _ _ _ _ _ _ _ _ _ _ _ _ _ _ _ _ _ _ _ _ _ _ _ _ _ _ _ _ _ _ _ _ _ _ _ _ _ _ _ _ _ _ _ _ _ _ _ _ _ _ _ _ _ _ _ _ _ _ _ _ _ _ _ _ _ _ _ _ _ _ _ _ _ HB
end Wire
end Go.Proofs.YthkhemcbkcoliaaDoor

/- edged: walked; WireKnown. -/
namespace Go.Proofs.YthkhemcbkcoliaaDoor
set_option linter.unusedVariables false
set_option linter.unusedSimpArgs false
namespace Wire
open Go.RowKit Mem Apn Err Aps Kit
set_option maxHeartbeats 4000000 in
set_option maxRecDepth 100000 in
theorem edged_any (w : World) (hg : Laid w) : Calls Tryd.prog 31 #[] w fun e w' => e = .returned (.bool true) ∧ Below w.heap.size w w' := by
  have HG := Held.mk hg
  clear hg
  go_enter Tryd.func31, Tryd.ntmps31
  go_wp2_with fail
  refine (some_any w).mono ?_
  rintro e w1 ⟨v1, rfl, ho1, hb1⟩
  have hr1 : ∃ A c, v1 = .slice A 31 c ∧ RdN w1 (fun k => k < w1.heap.size) .u64 A 31 (somes 8) := by
    obtain ⟨A, c, rfl, hc, hr⟩ := RdN.of_own ho1
    rw [somes_len] at hr ⊢
    exact ⟨A, c, rfl, RdV.mono hr fun k hk => own_lt ho1 k hk⟩
  obtain ⟨Al, cl, rfl, hr⟩ := hr1
  have HR := Held.mk hr
  have HB1 := Held.mk hb1
  have HG1 := Held.mk (HG.out.below hb1)
  clear ho1 hr hb1
  go_wp2_with fail
  refine edged_loop1 w1 HG1 Al cl HR ⟨?_⟩
  intros
  rename_i w2 HB2
  dsimp only
  go_wp2_with fail
  refine edged_loop2 w1 w2 HG1 HB2 ⟨?_⟩
  clear HB2 HR
  intros
  rename_i w3 HB3
  dsimp only
  have HB3w : Held (Below w.heap.size w w3) := ⟨HB1.out.trans (HB3.out.mono HB1.out.size)⟩
  clear HB3
  go_wp2_with fail
  refine (fms_all w3 (HG.out.below HB3w.out)).mono ?_
  rintro e w4 ⟨rfl, hb4⟩
  have HB4 : Held (Below w.heap.size w w4) := ⟨HB3w.out.trans (hb4.mono HB3w.out.size)⟩
  clear hb4 HB3w
  go_wp2_with fail
  go_ret
  exact ⟨rfl, HB4.out⟩
set_option maxHeartbeats 1000000 in
set_option maxRecDepth 100000 in
theorem known_any (w : World) (hg : Laid w) : Calls Tryd.prog 8 #[] w fun e w' => e = .returned (.bool true) ∧ Below w.heap.size w w' := by
  have HG := Held.mk hg
  clear hg
  go_enter Tryd.func8, Tryd.ntmps8
  go_wp2_with fail
  refine (shown_any w HG.out).mono ?_
  rintro e w1 ⟨rfl, hb1⟩
  have HB1 := Held.mk hb1
  clear hb1
  go_wp2_with fail
  refine (edged_any w1 (HG.out.below HB1.out)).mono ?_
  rintro e w2 ⟨rfl, hb2⟩
  have HB2 : Held (Below w.heap.size w w2) := ⟨HB1.out.trans (hb2.mono HB1.out.size)⟩
  clear hb2
  go_wp2
  go_ret
  exact ⟨rfl, HB2.out⟩
end Wire
end Go.Proofs.YthkhemcbkcoliaaDoor
