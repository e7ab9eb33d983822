/- Shift's replacing function: function 96. -/
import Derived.Test.YtfhgknmkpegpbaaCT58
set_option linter.unusedVariables false
set_option linter.unusedSimpArgs false
namespace Go.Proofs.Ytfhgknmkpegpbaa
open Go.RowKit

/-- What Shift puts in the place of a variable. -/
def shF (n v : Int) : Option Tm := some (Tm.va (wrap64 (v + n)))
set_option maxRecDepth 100000 in
set_option maxHeartbeats 4000000 in
theorem shift1_calls (Q : Nat → Prop) (cb : Nat) (n : Int) (w : World) (v : Int) (hb : Blk w cb 3 #[.int .i64 n]) :
    Calls Try.prog 96 #[.int .i64 v, .pointer (some ⟨cb, 0, none⟩)] w (RetP Q w (shF n v)) := by
  obtain ⟨k0, -⟩ := hb.one
  have hlt := hb.lt
  have Hb := Lib.hid hb; clear hb
  go_enter Try.func96, Try.ntmps96
  go_wp2
  refine bodyPost_ret (v := .tuple #[.agg #[.int .i64 1, .int .i64 (wrap64 (v + n)), .string ⟨#[]⟩, .slice none 0 0], .bool true]) (by simp [results, Try.results96, go_sem]) rfl (R := RetP Q w _) ⟨none, 0, rfl, by show (0 : Nat) ≤ _; omega, TmC.nil _ _ (by omega) (fun _ => rfl), ?_⟩
  exact (Below.refl _ _).alloc (Nat.le_refl _) _
end Go.Proofs.Ytfhgknmkpegpbaa
