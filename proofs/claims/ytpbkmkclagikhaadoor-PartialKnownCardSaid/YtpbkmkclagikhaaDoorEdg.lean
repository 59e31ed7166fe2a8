/- Numbers about the ends: walked. -/
import Derived.Test.YtpbkmkclagikhaaDoorEdl
namespace Go.Proofs.YtpbkmkclagikhaaDoor
set_option linter.unusedVariables false
set_option linter.unusedSimpArgs false
namespace Prt
open Go.RowKit Mem Dvs Err Aps
set_option maxHeartbeats 4000000 in
set_option maxRecDepth 100000 in
theorem edged_any (w : World) (hg : Laid w) : Calls Tryd.prog 28 #[] w fun e w' => e = .returned (.bool true) ∧ Below w.heap.size w w' := by
  have HB0 : Held (Below w.heap.size w (w.alloc (.cells #[.int .i64 (-9223372036854775808), .int .i64 (-1), .int .i64 0, .int .i64 1, .int .i64 2, .int .i64 3, .int .i64 10, .int .i64 9223372036854775806, .int .i64 9223372036854775807] 2))) := ⟨(Below.refl _ _).alloc (Nat.le_refl _) _⟩
  have HG := Held.mk (hg.below HB0.out)
  have HR : Held (RdB (w.alloc (.cells #[.int .i64 (-9223372036854775808), .int .i64 (-1), .int .i64 0, .int .i64 1, .int .i64 2, .int .i64 3, .int .i64 10, .int .i64 9223372036854775806, .int .i64 9223372036854775807] 2)) w.heap.size 9) := ⟨RdB.of_blk [-9223372036854775808, -1, 0, 1, 2, 3, 10, 9223372036854775806, 9223372036854775807] (Blk.new w 2 #[.int .i64 (-9223372036854775808), .int .i64 (-1), .int .i64 0, .int .i64 1, .int .i64 2, .int .i64 3, .int .i64 10, .int .i64 9223372036854775806, .int .i64 9223372036854775807]) (by decide)⟩
  clear hg
  go_enter Tryd.func28, Tryd.ntmps28
  go_wp2_with fail
  generalize w.alloc (.cells #[.int .i64 (-9223372036854775808), .int .i64 (-1), .int .i64 0, .int .i64 1, .int .i64 2, .int .i64 3, .int .i64 10, .int .i64 9223372036854775806, .int .i64 9223372036854775807] 2) = WL at *
  generalize hgs : w.heap.size = g at *
  have HB : Held (Below WL.heap.size WL WL) := ⟨Below.refl _ _⟩
  go_wp2_with fail
  go_loopw [3] (fun i wr => ∃ (k3 : Nat), i = .int .i64 k3 ∧ k3 ≤ 9 ∧ Held (Below WL.heap.size WL wr)) (fun i _ => 9 - (intOf i).toNat)
  case atStart => exact ⟨0, rfl, by omega, HB⟩
  case round =>
    clear HB
    obtain ⟨k3, rfl, hk3, HB⟩ := hrel
    by_cases hlt3 : k3 < 9
    · have i3 : decide ((k3 : Int) < 9) = true := decide_eq_true (by omega)
      go_wp2_with fail
      go_loopw [4] (fun i wr => ∃ (k4 : Nat), i = .int .i64 k4 ∧ k4 ≤ 9 ∧ Held (Below WL.heap.size WL wr)) (fun i _ => 9 - (intOf i).toNat)
      case atStart => exact ⟨0, rfl, by omega, HB⟩
      case round =>
        clear HB
        obtain ⟨k4, rfl, hk4, HB⟩ := hrel
        by_cases hlt4 : k4 < 9
        · have i4 : decide ((k4 : Int) < 9) = true := decide_eq_true (by omega)
          go_wp2_with fail
          go_loopw [5] (fun i wr => ∃ (k5 : Nat), i = .int .i64 k5 ∧ k5 ≤ 9 ∧ Held (Below WL.heap.size WL wr)) (fun i _ => 9 - (intOf i).toNat)
          case atStart => exact ⟨0, rfl, by omega, HB⟩
          case round =>
            clear HB
            obtain ⟨k5, rfl, hk5, HB⟩ := hrel
            by_cases hlt5 : k5 < 9
            · have i5 : decide ((k5 : Int) < 9) = true := decide_eq_true (by omega)
              go_wp2_with fail
              go_loopw [6] (fun i wr => ∃ (k6 : Nat), i = .int .i64 k6 ∧ k6 ≤ 9 ∧ Held (Below WL.heap.size WL wr)) (fun i _ => 9 - (intOf i).toNat)
              case atStart => exact ⟨0, rfl, by omega, HB⟩
              case round =>
                clear HB
                obtain ⟨k6, rfl, hk6, HB⟩ := hrel
                by_cases hlt6 : k6 < 9
                · have i6 : decide ((k6 : Int) < 9) = true := decide_eq_true (by omega)
                  obtain ⟨y3, hy3, hc3⟩ := HR.out k3 hlt3
                  obtain ⟨y4, hy4, hc4⟩ := HR.out k4 hlt4
                  obtain ⟨y5, hy5, hc5⟩ := HR.out k5 hlt5
                  obtain ⟨y6, hy6, hc6⟩ := HR.out k6 hlt6
                  have HPt := Held.mk (fun W hB => partLaw_at y3 y4 y5 y6 WL W HG.out hB hy6.2)
                  have HMn := Held.mk (fun W hB => moneyLaw_at y3 y4 y5 y6 WL W HG.out hB hy3 hy4.2)
                  have HOr := Held.mk (fun W hB => ordersLaw_at y3 y4 y5 y6 WL W HG.out hB hy3 hy4 hy5 hy6)
                  have HC := Held.mk (fun W hB => And.intro (hc3 W hB) (And.intro (hc4 W hB) (And.intro (hc5 W hB) (hc6 W hB))))
                  obtain ⟨c3, c4, c5, c6⟩ := HC.out _ HB.out
                  clear hc3 hc4 hc5 hc6 hy3 hy4 hy5 hy6
                  have j3 : 0 ≤ (k3 : Int) ∧ (k3 : Int) < 9 := ⟨by omega, by omega⟩
                  have j4 : 0 ≤ (k4 : Int) ∧ (k4 : Int) < 9 := ⟨by omega, by omega⟩
                  have j5 : 0 ≤ (k5 : Int) ∧ (k5 : Int) < 9 := ⟨by omega, by omega⟩
                  have j6 : 0 ≤ (k6 : Int) ∧ (k6 : Int) < 9 := ⟨by omega, by omega⟩
                  go_wp2_with fail
                  go_region_held3 (fun w' => w'.cell? ⟨g, k3, none⟩ = some (.int .i64 y3) ∧ w'.cell? ⟨g, k4, none⟩ = some (.int .i64 y4) ∧ w'.cell? ⟨g, k5, none⟩ = some (.int .i64 y5) ∧ w'.cell? ⟨g, k6, none⟩ = some (.int .i64 y6)) (go_keep) (fail)
                  have HX5 : Held (Blk ((wr.alloc (.cells #[.int .i64 y3, .int .i64 y4, .int .i64 y5, .int .i64 y6] 22)).drew) wr.heap.size 22 #[.int .i64 y3, .int .i64 y4, .int .i64 y5, .int .i64 y6]) := ⟨(Blk.new _ _ _).drew⟩
                  have HB5 : Held (Below WL.heap.size WL ((wr.alloc (.cells #[.int .i64 y3, .int .i64 y4, .int .i64 y5, .int .i64 y6] 22)).drew)) := ⟨below_drw (HB.out.alloc HB.out.size _)⟩
                  clear c3 c4 c5 c6 HB
                  generalize (wr.alloc (.cells #[.int .i64 y3, .int .i64 y4, .int .i64 y5, .int .i64 y6] 22)).drew = W5 at *
                  generalize wr.heap.size = g5 at *
                  have HCf : Held (∀ w', Below W5.heap.size W5 w' → w'.cell? ⟨g, k3, none⟩ = some (.int .i64 y3) ∧ w'.cell? ⟨g, k4, none⟩ = some (.int .i64 y4) ∧ w'.cell? ⟨g, k5, none⟩ = some (.int .i64 y5) ∧ w'.cell? ⟨g, k6, none⟩ = some (.int .i64 y6) ∧ w'.cell? ⟨g5, 0, none⟩ = some (.int .i64 y3) ∧ w'.cell? ⟨g5, 1, none⟩ = some (.int .i64 y4) ∧ w'.cell? ⟨g5, 2, none⟩ = some (.int .i64 y5) ∧ w'.cell? ⟨g5, 3, none⟩ = some (.int .i64 y6)) := ⟨fun W hB => by
                    have h1 := HC.out W (HB5.out.trans (hB.mono HB5.out.size))
                    have hk := Keep.of_below hB (fun _ => False)
                    exact ⟨h1.1, h1.2.1, h1.2.2.1, h1.2.2.2, hk.cell (HX5.out.cell 0) (fun h => h), hk.cell (HX5.out.cell 1) (fun h => h), hk.cell (HX5.out.cell 2) (fun h => h), hk.cell (HX5.out.cell 3) (fun h => h)⟩⟩
                  have hB : Below W5.heap.size W5 W5 := Below.refl _ _
                  obtain ⟨c3, c4, c5, c6, d0, d1, d2, d3⟩ := HCf.out _ hB
                  go_wp2_with fail
                  go_region_held3 (fun w' => w'.cell? ⟨g, k3, none⟩ = some (.int .i64 y3) ∧ w'.cell? ⟨g, k4, none⟩ = some (.int .i64 y4) ∧ w'.cell? ⟨g, k5, none⟩ = some (.int .i64 y5) ∧ w'.cell? ⟨g, k6, none⟩ = some (.int .i64 y6) ∧ w'.cell? ⟨g5, 0, none⟩ = some (.int .i64 y3) ∧ w'.cell? ⟨g5, 1, none⟩ = some (.int .i64 y4) ∧ w'.cell? ⟨g5, 2, none⟩ = some (.int .i64 y5) ∧ w'.cell? ⟨g5, 3, none⟩ = some (.int .i64 y6)) (go_keep) (first | ((go_at_call 3; refine (HPt.out _ (HB5.out.trans ((by first | exact hB | exact below_drw hB : Below W5.heap.size W5 _).mono HB5.out.size)) W5 HB5.out (by first | exact hB | exact below_drw hB)).mono ?_; rintro e w6 ⟨rfl, hb6⟩; have hB := hb6; obtain ⟨c3, c4, c5, c6, d0, d1, d2, d3⟩ := HCf.out _ hB)) | ((go_at_call 4; refine (HMn.out _ (HB5.out.trans ((by first | exact hB | exact below_drw hB : Below W5.heap.size W5 _).mono HB5.out.size)) W5 HB5.out (by first | exact hB | exact below_drw hB)).mono ?_; rintro e w6 ⟨rfl, hb6⟩; have hB := hb6; obtain ⟨c3, c4, c5, c6, d0, d1, d2, d3⟩ := HCf.out _ hB)) | ((go_at_call 6; refine (HOr.out _ (HB5.out.trans ((by first | exact hB | exact below_drw hB : Below W5.heap.size W5 _).mono HB5.out.size)) W5 HB5.out (by first | exact hB | exact below_drw hB)).mono ?_; rintro e w6 ⟨rfl, hb6⟩; have hB := hb6; obtain ⟨c3, c4, c5, c6, d0, d1, d2, d3⟩ := HCf.out _ hB)))
                  have HB6 : Held (Below WL.heap.size WL w6) := ⟨HB5.out.trans (hB.mono HB5.out.size)⟩
                  clear hB hb6 c3 c4 c5 c6 d0 d1 d2 d3
                  go_wp2_with fail
                  go_roundw
                  case rel => exact ⟨k6 + 1, by go_num, by omega, HB6⟩
                  case measure => simp [intOf]; omega
                · have i6 : decide ((k6 : Int) < 9) = false := decide_eq_false_iff_not.2 (by omega)
                  go_wp2_with fail
                  go_roundw
                  case rel => exact ⟨k5 + 1, by go_num, by omega, HB⟩
                  case measure => simp [intOf]; omega
            · have i5 : decide ((k5 : Int) < 9) = false := decide_eq_false_iff_not.2 (by omega)
              go_wp2_with fail
              go_roundw
              case rel => exact ⟨k4 + 1, by go_num, by omega, HB⟩
              case measure => simp [intOf]; omega
        · have i4 : decide ((k4 : Int) < 9) = false := decide_eq_false_iff_not.2 (by omega)
          go_wp2_with fail
          go_roundw
          case rel => exact ⟨k3 + 1, by go_num, by omega, HB⟩
          case measure => simp [intOf]; omega
    · have i3 : decide ((k3 : Int) < 9) = false := decide_eq_false_iff_not.2 (by omega)
      go_wp2_with fail
      have HB2 : Held (Below WL.heap.size WL (wr.alloc (.cells #[.int .i64 (-1), .int .i64 0, .int .i64 1, .int .i64 65535, .int .i64 65536] 3))) := ⟨HB.out.alloc HB.out.size _⟩
      have HR2 : Held (RdB (wr.alloc (.cells #[.int .i64 (-1), .int .i64 0, .int .i64 1, .int .i64 65535, .int .i64 65536] 3)) wr.heap.size 5) := ⟨RdB.of_blk [-1, 0, 1, 65535, 65536] (Blk.new wr 3 #[.int .i64 (-1), .int .i64 0, .int .i64 1, .int .i64 65535, .int .i64 65536]) (by decide)⟩
      clear HB
      generalize wr.alloc (.cells #[.int .i64 (-1), .int .i64 0, .int .i64 1, .int .i64 65535, .int .i64 65536] 3) = W2 at *
      generalize wr.heap.size = g2 at *
      have HG2 := Held.mk (HG.out.below HB2.out)
      have HR1 : Held (RdB W2 g 9) := ⟨HR.out.below HB2.out⟩
      have HLg := Held.mk (fun x0 x1 x2 x3 x4 x5 W hB => legsLaw_at x0 x1 x2 x3 x4 x5 W2 W HG2.out hB)
      go_wp2_with fail
      refine edged_loop2 g g2 W2 W2 HG2 HR1 HR2 ⟨Below.refl _ _⟩ ⟨?_⟩
      intro v0 v9 v10 v11 v12 v13 v106 v107 v108 v109 v110 v111 v112 v113 v114 v115 v116 v117 v118 v119 v120 v121 v122 v123 v124 v125 v126 v127 v128 v129 v130 v131 v132 v133 v134 v135 v136 v137 v138 v139 v140 v141 v142 v143 v144 v145 v146 v147 v148 v149 v150 v151 v152 v153 v154 v155 v156 v157 v158 v159 v160 v161 v162 v163 v164 v165 v166 v167 v168 v169 v170 v171 v172 v173 v174 v175 v176 v177 v178 v179 v180 v181 v182 v183 v184 v185 v186 v187 v188 v189 v190 v191 v192 v193 v194 v195 wx HB
      dsimp only
      go_wp2_with fail
      refine (small_any _ (HG2.out.below HB.out)).mono ?_
      rintro e w9 ⟨rfl, hb9⟩
      subst hgs
      have HB9 : Held (Below w.heap.size w w9) := ⟨by
        have b1 := HB0.out.trans (HB2.out.mono HB0.out.size)
        have b2 := b1.trans (HB.out.mono b1.size)
        exact b2.trans (hb9.mono b2.size)⟩
      clear hb9
      go_wp2
      go_ret
      exact ⟨rfl, HB9.out⟩
end Prt
end Go.Proofs.YtpbkmkclagikhaaDoor
