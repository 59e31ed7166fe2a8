/- Rows of rows: small facts. -/
import Derived.Test.YtihgmlcmdpmhhaaSca
namespace Go.Proofs.Ytihgmlcmdpmhhaa
set_option linter.unusedVariables false
set_option linter.unusedSimpArgs false
namespace AptBytes
theorem info_rows : (Try.prog.info? 23).map (fun i => (i.zero, i.size, i.bytes)) = some (some (.slice none 0 0), 1, 24) := by kernel_rfl
end AptBytes
namespace Jrn
open Go.RowKit Mem Apn Wire Aps
theorem Rows.slc {w : World} {base : Nat} {v : Value} {xs : List (List Int)} (h : Rows w base v xs) : ∃ A c, v = .slice A xs.length c ∧ xs.length ≤ c := by
  obtain ⟨V, h1, _⟩ := h.ex
  exact own_slc h1
theorem Rows.ge {w : World} {base : Nat} {v : Value} {xs : List (List Int)} (h : Rows w base v xs) (k : Nat) (e : v.ownBlock = some k) : base ≤ k := by
  obtain ⟨V, h1, _⟩ := h.ex
  exact own_ge h1 k e
theorem Rows.below {w w' : World} {base : Nat} {v : Value} {xs : List (List Int)} (h : Rows w base v xs) (hb : Below w.heap.size w w') : Rows w' base v xs := h.keep (Keep.of_below hb (fun _ => False)) (fun _ _ _ h => h)
end Jrn
end Go.Proofs.Ytihgmlcmdpmhhaa
