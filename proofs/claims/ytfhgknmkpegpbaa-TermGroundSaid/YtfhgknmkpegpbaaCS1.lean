/- A row of one element, cut out of a row. -/
import Derived.Test.YtfhgknmkpegpbaaCP9
set_option linter.unusedVariables false
set_option linter.unusedSimpArgs false
namespace Go.Proofs.Ytfhgknmkpegpbaa
open Go.RowKit
theorem slice1_run (j n c gs os : Nat) (W : World) (h : j < n) (hn : n ≤ c) (hc : c ≤ 9223372036854775807) :
    (Instr.sliceAt 22 (.slice (some ⟨gs, os, none⟩) n c) (some (.int .i64 (j : Int))) (some (.int .i64 ((j : Int) + 1))) (some (.int .i64 ((j : Int) + 1)))).run Try.prog W = .ok (.slice (some ⟨gs, os + j * 4, none⟩) 1 1) W := by
  have h5 : (j : Int) + 1 ≤ (c : Int) := by omega
  have h6 : (0 : Int) ≤ (j : Int) + 1 := by omega
  have h7 : (j : Int) ≤ (j : Int) + 1 := by omega
  have h8 : (0 : Int) ≤ (j : Int) := by omega
  go_simp
end Go.Proofs.Ytfhgknmkpegpbaa
