/- A small sum does not wrap. -/
import Derived.Test.YtfhgknmkpegpbaaCS1
set_option linter.unusedVariables false
namespace Go.Proofs.Ytfhgknmkpegpbaa
open Go.RowKit
theorem wrap_succ (j : Nat) (h : (j : Int) ≤ 100000) : wrap64 ((j : Int) + 1) = (j : Int) + 1 := by
  unfold wrap64
  omega
end Go.Proofs.Ytfhgknmkpegpbaa
