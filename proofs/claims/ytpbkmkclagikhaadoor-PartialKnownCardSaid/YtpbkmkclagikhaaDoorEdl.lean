/- Numbers about the ends: walked. -/
import Derived.Test.YtpbkmkclagikhaaDoorSml
import Derived.Test.YtpbkmkclagikhaaDoorMny
import Derived.Test.YtpbkmkclagikhaaDoorPlg
import Derived.Deep.RegionHeld3
namespace Go.Proofs.YtpbkmkclagikhaaDoor
set_option linter.unusedVariables false
set_option linter.unusedSimpArgs false
namespace Prt
open Go.RowKit Mem Dvs Err Aps
/-- A block of n numbers that reads so whatever is laid behind it. -/
def RdB (W0 : World) (g n : Nat) : Prop := ∀ i, i < n → ∃ y : Int, (-9223372036854775808 ≤ y ∧ y ≤ 9223372036854775807) ∧ ∀ W, Below W0.heap.size W0 W → W.cell? ⟨g, i, none⟩ = some (.int .i64 y)
theorem RdB.of_blk {W : World} {g : Nat} {t : TypeId} (xs : List Int) (h : Blk W g t (nums .i64 xs).toArray) (hx : ∀ y ∈ xs, -9223372036854775808 ≤ y ∧ y ≤ 9223372036854775807) : RdB W g xs.length := fun i hi =>
  ⟨xs[i], hx _ (List.getElem_mem hi), fun W' hb => (Keep.of_below hb (fun _ => False)).cell (by rw [h.cell i]; simp [nums, hi]) (fun h => h)⟩
theorem RdB.below {W0 W : World} {g n : Nat} (h : RdB W0 g n) (hb : Below W0.heap.size W0 W) : RdB W g n := fun i hi => by
  obtain ⟨y, h1, h2⟩ := h i hi
  exact ⟨y, h1, fun W' hb' => h2 W' (hb.trans (hb'.mono hb.size))⟩
theorem partLaw_at (y3 y4 y5 y6 : Int) (w W : World) (hg : Laid w) (hB : Below w.heap.size w W) (h6 : y6 ≤ 9223372036854775807) (W0 : World) (h0 : Below w.heap.size w W0) (h : Below W0.heap.size W0 W) :
    Calls Tryd.prog 3 #[.agg #[.int .i64 y3, .int .i64 y4, .int .i64 y5, .int .i64 y6]] W fun e w' => e = .returned (.bool true) ∧ Below W0.heap.size W0 w' :=
  (partLaw_any y3 y4 y5 y6 W (hg.below hB) h6).mono (by rintro e w' ⟨rfl, hb⟩; exact ⟨rfl, h.trans (hb.mono h.size)⟩)
theorem moneyLaw_at (y3 y4 y5 y6 : Int) (w W : World) (hg : Laid w) (hB : Below w.heap.size w W) (h3 : -9223372036854775808 ≤ y3 ∧ y3 ≤ 9223372036854775807) (h4 : y4 ≤ 9223372036854775807) (W0 : World) (h0 : Below w.heap.size w W0) (h : Below W0.heap.size W0 W) :
    Calls Tryd.prog 4 #[.agg #[.int .i64 y3, .int .i64 y4, .int .i64 y5, .int .i64 y6]] W fun e w' => e = .returned (.bool true) ∧ Below W0.heap.size W0 w' :=
  (moneyLaw_any y3 y4 y5 y6 W (hg.below hB) h3 h4).mono (by rintro e w' ⟨rfl, hb⟩; exact ⟨rfl, h.trans (hb.mono h.size)⟩)
theorem ordersLaw_at (y3 y4 y5 y6 : Int) (w W : World) (hg : Laid w) (hB : Below w.heap.size w W) (h3 : -9223372036854775808 ≤ y3 ∧ y3 ≤ 9223372036854775807) (h4 : -9223372036854775808 ≤ y4 ∧ y4 ≤ 9223372036854775807) (h5 : -9223372036854775808 ≤ y5 ∧ y5 ≤ 9223372036854775807) (h6 : -9223372036854775808 ≤ y6 ∧ y6 ≤ 9223372036854775807) (W0 : World) (h0 : Below w.heap.size w W0) (h : Below W0.heap.size W0 W) :
    Calls Tryd.prog 6 #[.agg #[.int .i64 y3, .int .i64 y4, .int .i64 y5, .int .i64 y6], .agg #[.int .i64 5, .int .i64 y6, .int .i64 2, .int .i64 0], .slice (some ⟨W.heap.size, 0, none⟩) 3 3]
      (W.alloc (.cells #[.int .i64 0, .int .i64 y6, .int .i64 y3, .bool true, .int .i64 1, .int .i64 y4, .int .i64 y5, .bool false, .int .i64 0, .int .i64 y5, .int .i64 y4, .bool false] 53)) fun e w' => e = .returned (.bool true) ∧ Below W0.heap.size W0 w' := by
  have b2 := h.alloc h.size (.cells #[.int .i64 0, .int .i64 y6, .int .i64 y3, .bool true, .int .i64 1, .int .i64 y4, .int .i64 y5, .bool false, .int .i64 0, .int .i64 y5, .int .i64 y4, .bool false] 53)
  have b3 := hB.alloc hB.size (.cells #[.int .i64 0, .int .i64 y6, .int .i64 y3, .bool true, .int .i64 1, .int .i64 y4, .int .i64 y5, .bool false, .int .i64 0, .int .i64 y5, .int .i64 y4, .bool false] 53)
  refine (orders_any y3 y4 y5 y6 5 y6 2 0 _ 3 [⟨0, y6, y3, true⟩, ⟨1, y4, y5, false⟩, ⟨0, y5, y4, false⟩] _ (hg.below b3) h3.2 h4.2 h5.2 h6.2 (by omega) h6.2 (by omega) (by omega) (rd_calls _ _) ?_ (by simp)).mono ?_
  · intro p hp
    simp at hp
    rcases hp with rfl | rfl | rfl
    · exact ⟨by simp, h6, h3⟩
    · exact ⟨by simp, h4, h5⟩
    · exact ⟨by simp, h5, h4⟩
  · rintro e w2 ⟨rfl, hb⟩
    exact ⟨rfl, b2.trans (hb.mono b2.size)⟩
theorem legsLaw_at (x0 x1 x2 x3 x4 x5 : Int) (w W : World) (hg : Laid w) (hB : Below w.heap.size w W) :
    Calls Tryd.prog 5 #[.agg #[.int .i64 x0, .int .i64 x1, .int .i64 x2, .int .i64 x3, .int .i64 x4, .int .i64 x5]] W fun e w' => e = .returned (.bool true) ∧ Below w.heap.size w w' :=
  (legsLaw_any x0 x1 x2 x3 x4 x5 W (hg.below hB)).mono (by rintro e w' ⟨rfl, hb⟩; exact ⟨rfl, hB.trans (hb.mono hB.size)⟩)
def loopsOf : Code → List Code
  | .loop c => [c]
  | .seq a b => loopsOf a ++ loopsOf b
  | .block _ c => loopsOf c
  | .scope c => loopsOf c
  | .cond _ a b => loopsOf a ++ loopsOf b
  | _ => []
noncomputable def edgedBody : Code := (((Tryd.f28.body.map loopsOf).getD [])[1]?).getD .skip
set_option maxHeartbeats 8000000 in
set_option maxRecDepth 100000 in
theorem edged_loop2 (g g2 : Nat) (W2 w1 : World) (HG2 : Held (Laid W2)) (HR1 : Held (RdB W2 g 9)) (HR2 : Held (RdB W2 g2 5)) (HB : Held (Below W2.heap.size W2 w1)) {c0 c1 c3 c4 c5 c6 c7 c10 c11 c12 c13 c14 c15 c16 c17 c18 c19 c20 c21 c22 c23 c24 c25 c26 c27 c28 c29 c30 c31 c32 c33 c34 c35 c36 c37 c38 c39 c40 c41 c42 c43 c44 c45 c46 c47 c48 c49 c50 c51 c52 c53 c54 c55 c56 c57 c58 c59 c60 c61 c62 c63 c64 c65 c66 c67 c68 c69 c70 c71 c72 c73 c74 c75 c76 c77 c78 c79 c80 c81 c82 c83 c84 c85 c86 c87 c88 c89 c90 c91 c92 c93 c94 c95 c96 c97 c98 c99 c100 c101 c102 c103 c104 c105 c106 c107 c108 c109 c110 c111 c112 c113 c114 c115 c116 c117 c118 c119 c120 c121 c122 c123 c124 c125 c126 c127 c128 c129 c130 c131 c132 c133 c134 c135 c136 c137 c138 c139 c140 c141 c142 c143 c144 c145 c146 c147 c148 c149 c150 c151 c152 c153 c154 c155 c156 c157 c158 c159 c160 c161 c162 c163 c164 c165 c166 c167 c168 c169 c170 c171 c172 c173 c174 c175 c176 c177 c178 c179 c180 c181 c182 c183 c184 c185 c186 c187 c188 c189 c190 c191 c192 c193 c194 c195 c196 : Value} {K : Act → World → Prop} {post : Ending → World → Prop}
    (HK : Held (∀ (v0 v9 v10 v11 v12 v13 v106 v107 v108 v109 v110 v111 v112 v113 v114 v115 v116 v117 v118 v119 v120 v121 v122 v123 v124 v125 v126 v127 v128 v129 v130 v131 v132 v133 v134 v135 v136 v137 v138 v139 v140 v141 v142 v143 v144 v145 v146 v147 v148 v149 v150 v151 v152 v153 v154 v155 v156 v157 v158 v159 v160 v161 v162 v163 v164 v165 v166 v167 v168 v169 v170 v171 v172 v173 v174 v175 v176 v177 v178 v179 v180 v181 v182 v183 v184 v185 v186 v187 v188 v189 v190 v191 v192 v193 v194 v195 : Value) (w' : World), Held (Below W2.heap.size W2 w') → K ⟨#[v0, c1, .slice (some ⟨g, 0, none⟩) 9 9, c3, c4, c5, c6, c7, .slice (some ⟨g2, 0, none⟩) 5 5, v9, v10, v11, v12, v13, c14, c15, c16, c17, c18, c19, c20, c21, c22, c23, c24, c25, c26, c27, c28, c29, c30, c31, c32, c33, c34, c35, c36, c37, c38, c39, c40, c41, c42, c43, c44, c45, c46, c47, c48, c49, c50, c51, c52, c53, c54, c55, c56, c57, c58, c59, c60, c61, c62, c63, c64, c65, c66, c67, c68, c69, c70, c71, c72, c73, c74, c75, c76, c77, c78, c79, c80, c81, c82, c83, c84, c85, c86, c87, c88, c89, c90, c91, c92, c93, c94, c95, c96, c97, c98, c99, c100, c101, c102, c103, c104, c105, v106, v107, v108, v109, v110, v111, v112, v113, v114, v115, v116, v117, v118, v119, v120, v121, v122, v123, v124, v125, v126, v127, v128, v129, v130, v131, v132, v133, v134, v135, v136, v137, v138, v139, v140, v141, v142, v143, v144, v145, v146, v147, v148, v149, v150, v151, v152, v153, v154, v155, v156, v157, v158, v159, v160, v161, v162, v163, v164, v165, v166, v167, v168, v169, v170, v171, v172, v173, v174, v175, v176, v177, v178, v179, v180, v181, v182, v183, v184, v185, v186, v187, v188, v189, v190, v191, v192, v193, v194, v195, c196], []⟩ w')) :
    Code.wp Tryd.prog (.loop edgedBody) (Exit.inBlock 8 (Exit.then K (bodyPost Tryd.prog Tryd.f28 post))) ⟨#[c0, c1, .slice (some ⟨g, 0, none⟩) 9 9, c3, c4, c5, c6, c7, .slice (some ⟨g2, 0, none⟩) 5 5, .int .i64 0, c10, c11, c12, c13, c14, c15, c16, c17, c18, c19, c20, c21, c22, c23, c24, c25, c26, c27, c28, c29, c30, c31, c32, c33, c34, c35, c36, c37, c38, c39, c40, c41, c42, c43, c44, c45, c46, c47, c48, c49, c50, c51, c52, c53, c54, c55, c56, c57, c58, c59, c60, c61, c62, c63, c64, c65, c66, c67, c68, c69, c70, c71, c72, c73, c74, c75, c76, c77, c78, c79, c80, c81, c82, c83, c84, c85, c86, c87, c88, c89, c90, c91, c92, c93, c94, c95, c96, c97, c98, c99, c100, c101, c102, c103, c104, c105, c106, c107, c108, c109, c110, c111, c112, c113, c114, c115, c116, c117, c118, c119, c120, c121, c122, c123, c124, c125, c126, c127, c128, c129, c130, c131, c132, c133, c134, c135, c136, c137, c138, c139, c140, c141, c142, c143, c144, c145, c146, c147, c148, c149, c150, c151, c152, c153, c154, c155, c156, c157, c158, c159, c160, c161, c162, c163, c164, c165, c166, c167, c168, c169, c170, c171, c172, c173, c174, c175, c176, c177, c178, c179, c180, c181, c182, c183, c184, c185, c186, c187, c188, c189, c190, c191, c192, c193, c194, c195, c196], []⟩ w1 := by
  have HLg := Held.mk (fun x0 x1 x2 x3 x4 x5 W hB => legsLaw_at x0 x1 x2 x3 x4 x5 W2 W HG2.out hB)
  conv => arg 2; arg 1; whnf
  dsimp only
  go_loopw [9] (fun i wr => ∃ (k9 : Nat), i = .int .i64 k9 ∧ k9 ≤ 5 ∧ Held (Below W2.heap.size W2 wr)) (fun i _ => 5 - (intOf i).toNat)
  case atStart => exact ⟨0, rfl, by omega, HB⟩
  case round =>
    clear HB
    obtain ⟨k9, rfl, hk9, HB⟩ := hrel
    by_cases hlt9 : k9 < 5
    · have i9 : decide ((k9 : Int) < 5) = true := decide_eq_true (by omega)
      go_wp2_with fail
      go_loopw [10] (fun i wr => ∃ (k10 : Nat), i = .int .i64 k10 ∧ k10 ≤ 5 ∧ Held (Below W2.heap.size W2 wr)) (fun i _ => 5 - (intOf i).toNat)
      case atStart => exact ⟨0, rfl, by omega, HB⟩
      case round =>
        clear HB
        obtain ⟨k10, rfl, hk10, HB⟩ := hrel
        by_cases hlt10 : k10 < 5
        · have i10 : decide ((k10 : Int) < 5) = true := decide_eq_true (by omega)
          go_wp2_with fail
          go_loopw [11] (fun i wr => ∃ (k11 : Nat), i = .int .i64 k11 ∧ k11 ≤ 5 ∧ Held (Below W2.heap.size W2 wr)) (fun i _ => 5 - (intOf i).toNat)
          case atStart => exact ⟨0, rfl, by omega, HB⟩
          case round =>
            clear HB
            obtain ⟨k11, rfl, hk11, HB⟩ := hrel
            by_cases hlt11 : k11 < 5
            · have i11 : decide ((k11 : Int) < 5) = true := decide_eq_true (by omega)
              go_wp2_with fail
              go_loopw [12] (fun i wr => ∃ (k12 : Nat), i = .int .i64 k12 ∧ k12 ≤ 5 ∧ Held (Below W2.heap.size W2 wr)) (fun i _ => 5 - (intOf i).toNat)
              case atStart => exact ⟨0, rfl, by omega, HB⟩
              case round =>
                clear HB
                obtain ⟨k12, rfl, hk12, HB⟩ := hrel
                by_cases hlt12 : k12 < 5
                · have i12 : decide ((k12 : Int) < 5) = true := decide_eq_true (by omega)
                  go_wp2_with fail
                  go_loopw [13] (fun i wr => ∃ (k13 : Nat), i = .int .i64 k13 ∧ k13 ≤ 9 ∧ Held (Below W2.heap.size W2 wr)) (fun i _ => 9 - (intOf i).toNat)
                  case atStart => exact ⟨0, rfl, by omega, HB⟩
                  case round =>
                    clear HB
                    obtain ⟨k13, rfl, hk13, HB⟩ := hrel
                    by_cases hlt13 : k13 < 9
                    · have i13 : decide ((k13 : Int) < 9) = true := decide_eq_true (by omega)
                      obtain ⟨y9, _, hc9⟩ := HR2.out k9 hlt9
                      obtain ⟨y10, _, hc10⟩ := HR2.out k10 hlt10
                      obtain ⟨y11, _, hc11⟩ := HR2.out k11 hlt11
                      obtain ⟨y12, _, hc12⟩ := HR2.out k12 hlt12
                      obtain ⟨y13, _, hc13⟩ := HR1.out k13 hlt13
                      obtain ⟨r, hr⟩ : ∃ r : Nat, r = (2 * k13 + k9 + k10) % 9 := ⟨_, rfl⟩
                      have hr9 : r < 9 := by omega
                      obtain ⟨y14, _, hc14⟩ := HR1.out r hr9
                      have HCf : Held (∀ w', Below W2.heap.size W2 w' → w'.cell? ⟨g2, k9, none⟩ = some (.int .i64 y9) ∧ w'.cell? ⟨g2, k10, none⟩ = some (.int .i64 y10) ∧ w'.cell? ⟨g2, k11, none⟩ = some (.int .i64 y11) ∧ w'.cell? ⟨g2, k12, none⟩ = some (.int .i64 y12) ∧ w'.cell? ⟨g, k13, none⟩ = some (.int .i64 y13) ∧ w'.cell? ⟨g, r, none⟩ = some (.int .i64 y14)) := ⟨fun W hB => ⟨hc9 W hB, hc10 W hB, hc11 W hB, hc12 W hB, hc13 W hB, hc14 W hB⟩⟩
                      have j9 : 0 ≤ (k9 : Int) ∧ (k9 : Int) < 5 := ⟨by omega, by omega⟩
                      have j10 : 0 ≤ (k10 : Int) ∧ (k10 : Int) < 5 := ⟨by omega, by omega⟩
                      have j11 : 0 ≤ (k11 : Int) ∧ (k11 : Int) < 5 := ⟨by omega, by omega⟩
                      have j12 : 0 ≤ (k12 : Int) ∧ (k12 : Int) < 5 := ⟨by omega, by omega⟩
                      have j13 : 0 ≤ (k13 : Int) ∧ (k13 : Int) < 9 := ⟨by omega, by omega⟩
                      have j14 : 0 ≤ (r : Int) ∧ (r : Int) < 9 := ⟨by omega, by omega⟩
                      have hw1 : IntKind.i64.wrap (2 * (k13 : Int)) = 2 * (k13 : Int) := IntWalk.i64_in _ ⟨by omega, by omega⟩
                      have hw2 : IntKind.i64.wrap (2 * (k13 : Int) + (k9 : Int)) = 2 * (k13 : Int) + (k9 : Int) := IntWalk.i64_in _ ⟨by omega, by omega⟩
                      have hw3 : IntKind.i64.wrap (2 * (k13 : Int) + (k9 : Int) + (k10 : Int)) = 2 * (k13 : Int) + (k9 : Int) + (k10 : Int) := IntWalk.i64_in _ ⟨by omega, by omega⟩
                      have hm2 : (2 * (k13 : Int) + (k9 : Int) + (k10 : Int)) % 9 = (r : Int) := by omega
                      have hm1 : Int.tmod (2 * (k13 : Int) + (k9 : Int) + (k10 : Int)) 9 = (r : Int) := by rw [Int.tmod_eq_emod_of_nonneg (by omega)]; exact hm2
                      clear hc9 hc10 hc11 hc12 hc13 hc14 hr
                      have hB : Below W2.heap.size W2 wr := HB.out
                      obtain ⟨c9, c10, c11, c12, c13, c14⟩ := HCf.out _ hB
                      go_wp2_with fail
                      go_region_held3 (fun w' => w'.cell? ⟨g2, k9, none⟩ = some (.int .i64 y9) ∧ w'.cell? ⟨g2, k10, none⟩ = some (.int .i64 y10) ∧ w'.cell? ⟨g2, k11, none⟩ = some (.int .i64 y11) ∧ w'.cell? ⟨g2, k12, none⟩ = some (.int .i64 y12) ∧ w'.cell? ⟨g, k13, none⟩ = some (.int .i64 y13) ∧ w'.cell? ⟨g, r, none⟩ = some (.int .i64 y14)) (go_keep) ((go_at_call 5; refine (HLg.out _ _ _ _ _ _ _ (by first | exact hB | exact below_drw hB)).mono ?_; rintro e w6 ⟨rfl, hb6⟩; have hB := hb6; obtain ⟨c9, c10, c11, c12, c13, c14⟩ := HCf.out _ hB))
                      have HB6 : Held (Below W2.heap.size W2 w6) := ⟨hB⟩
                      clear hB hb6 c9 c10 c11 c12 c13 c14 hw1 hw2 hw3 hm1 hm2
                      go_wp2_with fail
                      go_roundw
                      case rel => exact ⟨k13 + 1, by go_num, by omega, HB6⟩
                      case measure => simp [intOf]; omega
                    · have i13 : decide ((k13 : Int) < 9) = false := decide_eq_false_iff_not.2 (by omega)
                      go_wp2_with fail
                      go_roundw
                      case rel => exact ⟨k12 + 1, by go_num, by omega, HB⟩
                      case measure => simp [intOf]; omega
                · have i12 : decide ((k12 : Int) < 5) = false := decide_eq_false_iff_not.2 (by omega)
                  go_wp2_with fail
                  go_roundw
                  case rel => exact ⟨k11 + 1, by go_num, by omega, HB⟩
                  case measure => simp [intOf]; omega
            · have i11 : decide ((k11 : Int) < 5) = false := decide_eq_false_iff_not.2 (by omega)
              go_wp2_with fail
              go_roundw
              case rel => exact ⟨k10 + 1, by go_num, by omega, HB⟩
              case measure => simp [intOf]; omega
        · have i10 : decide ((k10 : Int) < 5) = false := decide_eq_false_iff_not.2 (by omega)
          go_wp2_with fail
          go_roundw
          case rel => exact ⟨k9 + 1, by go_num, by omega, HB⟩
          case measure => simp [intOf]; omega
    · have i9 : decide ((k9 : Int) < 5) = false := decide_eq_false_iff_not.2 (by omega)
      go_wp2_with fail
      exact HK.out _ _ _ _ _ _ _ _ _ _ _ _ _ _ _ _ _ _ _ _ _ _ _ _ _ _ _ _ _ _ _ _ _ _ _ _ _ _ _ _ _ _ _ _ _ _ _ _ _ _ _ _ _ _ _ _ _ _ _ _ _ _ _ _ _ _ _ _ _ _ _ _ _ _ _ _ _ _ _ _ _ _ _ _ _ _ _ _ _ _ _ _ _ _ _ _ _ HB
end Prt
end Go.Proofs.YtpbkmkclagikhaaDoor
