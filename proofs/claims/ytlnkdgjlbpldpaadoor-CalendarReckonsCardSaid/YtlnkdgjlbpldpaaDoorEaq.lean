/- Easter: the document's reckoning and the program's are one in each of the years. -/
import Derived.Test.YtlnkdgjlbpldpaaDoorEas2
namespace Go.Proofs.YtlnkdgjlbpldpaaDoor
set_option linter.unusedVariables false
namespace Cal
/-! Easter, by the document. -/
def rG (y : Int) : Int := y % 19 + 1
def rC (y : Int) : Int := y / 100 + 1
def rX (y : Int) : Int := 3 * rC y / 4 - 12
def rZ (y : Int) : Int := (8 * rC y + 5) / 25 - 5
def rE0 (y : Int) : Int := (11 * rG y + 20 + rZ y - rX y) % 30
def rE (y : Int) : Int := if rE0 y = 24 ∨ (rE0 y = 25 ∧ 11 < rG y) then rE0 y + 1 else rE0 y
def rN (y : Int) : Int := if 44 - rE y < 21 then 44 - rE y + 30 else 44 - rE y
def rEI (y : Int) : Int := numI y 3 1 + (rN y + 7 - (5 * y / 4 - rX y - 10 + rN y) % 7) - 1
theorem easter_all : (List.range 9999).all (fun k => rEI ((k : Int) + 1) == easterI ((k : Int) + 1)) = true := by decide +kernel
theorem easter_eq (y : Int) (h1 : 1 ≤ y) (h2 : y ≤ 9999) : rEI y = easterI y := by
  have := List.all_eq_true.1 easter_all (y - 1).toNat (List.mem_range.2 (by omega))
  rw [show ((y - 1).toNat : Int) + 1 = y from by omega] at this
  exact beq_iff_eq.1 this
end Cal
end Go.Proofs.YtlnkdgjlbpldpaaDoor
