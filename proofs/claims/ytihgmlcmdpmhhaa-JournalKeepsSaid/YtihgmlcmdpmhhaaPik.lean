/- Pick: walked. -/
import Derived.Test.YtihgmlcmdpmhhaaPut
import Derived.Deep.QuietTactic
import Derived.BigQuiet
namespace Go.Proofs.Ytihgmlcmdpmhhaa
set_option linter.unusedVariables false
set_option linter.unusedSimpArgs false
namespace Wire
open Go.RowKit Mem
set_option maxHeartbeats 1000000 in
set_option maxRecDepth 100000 in
theorem pick_any (k n : Int) (w : World) (hk : I64 k) (hn : 1 ≤ n) (hn2 : n ≤ 1000000000000) : Calls Try.prog 9 #[.int .i64 k, .int .i64 n] w fun e w' => e = .returned (.int .i64 (k % n)) ∧ w = w' := by
  unfold I64 at hk
  go_enter Try.func9, Try.ntmps9
  by_cases h0 : 0 ≤ k
  · have e : k.tmod n = k % n := Int.tmod_eq_emod_of_nonneg h0
    have h1 := Int.emod_nonneg k (show n ≠ 0 by omega)
    have h2 := Int.emod_lt_of_pos k (show 0 < n by omega)
    generalize k % n = r at *
    go_wp2
    go_ret
    exact ⟨rfl, rfl⟩
  · by_cases hd : n ∣ k
    · have e : k.tmod n = 0 := by rw [Int.tmod_eq_emod, if_pos (.inr hd), Int.emod_eq_zero_of_dvd hd]; rfl
      have e2 : k % n = 0 := Int.emod_eq_zero_of_dvd hd
      have Hd := Held.mk hd
      clear hd
      rw [e2]
      clear e2
      go_wp2
      go_ret
      exact ⟨rfl, rfl⟩
    · have e : k.tmod n = k % n - n := by rw [Int.tmod_eq_emod, if_neg (fun h => h.elim h0 hd)]; omega
      have h1 := Int.emod_nonneg k (show n ≠ 0 by omega)
      have h2 := Int.emod_lt_of_pos k (show 0 < n by omega)
      have h3 : k % n ≠ 0 := fun h => hd (Int.dvd_of_emod_eq_zero h)
      clear hd
      generalize k % n = r at *
      have h4 : r - n < 0 := by omega
      go_wp2
      go_ret
      exact ⟨by first | rfl | (congr 2; omega), rfl⟩

end Wire
end Go.Proofs.Ytihgmlcmdpmhhaa
