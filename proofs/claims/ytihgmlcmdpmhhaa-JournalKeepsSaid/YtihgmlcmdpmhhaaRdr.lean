import Derived.Test.YtihgmlcmdpmhhaaNum
import Derived.Test.YtihgmlcmdpmhhaaWri
import Derived.WalkSmall
namespace Go.Proofs.Ytihgmlcmdpmhhaa
set_option linter.unusedVariables false
namespace Wire
open Go.RowKit Mem
theorem info_size : (Try.prog.info? 5).map (fun i => i.size) = some 1 := by kernel_rfl
theorem Er.enc_cases (e : Er) : e.enc = .nilIface ∨ (∃ t n, e.enc = .iface t (.int .i64 n)) ∨ ∃ t s n, e.enc = .iface t (.agg #[.string s, .int .i64 n]) := by
  cases e with
  | ok => exact .inl rfl
  | no n => exact .inr (.inl ⟨_, _, rfl⟩)
  | ref s n => exact .inr (.inr ⟨_, _, _, rfl⟩)
end Wire
end Go.Proofs.Ytihgmlcmdpmhhaa
