/-
  No cell of these rows narrows 'for every input' (looked for: loops, veiled, ifaces, maps, wideKeys, modest, calm, conditions, laid).
  DERIVED. THE GIVEN ROWS OF THIS SEAT. 12 by the template 'for every input the law returns true; each argument reads behind the call as it read before'; 0 by the template 'total and deterministic' (their statements: YthdlmnkefheliaaTotals.lean).
  GIVEN WITH THE SEED: the statements are not yours to turn. If you find one false, say at which input.
  Laid BY PROGRAM, IN A SANDBOX (cutbox-rows.mjs): the forced cells as the released guide's own fill.sh prints them over the translation 5e96b8ff025bd23c… (all of the seat's roots in one cut). By AI agents, Wed Nov 11 2026. No macro, syntax, notation, axiom, sorry.
-/
import Derived.Test.YthdlmnkefheliaaChecked
import GoSem.Claim
import GoSem.ClaimJoined
import GoSem.ClaimMapViews
import Derived.JoinedTies
import Derived.KernelRfl
namespace Go.Proofs.Ythdlmnkefheliaa
/- THE CELL 'sum', in the pinned program and in every row, IS THE sha256 OF THE DUMP (.gsa) THAT YthdlmnkefheliaaProg.lean LOADS. Nothing in Lean hashes anything: it is a label: what it is worth is what the hold of that sum in a sandbox is worth. -/
noncomputable def Try.pinned : Pinned := { name := "ythdlmnkefheliaa", sum := "5e96b8ff025bd23c2c8c2ab6004fa7562ec713d2b51f41135a951e18b44de1ed", checked := Try.checked }
namespace Rows
def none {H : Type} : Left H := { results := [], args := [] }

/-- 'riparianlaw28.DoneStarts': WHATEVER THE INPUT: true; the input reads as it did. -/
def doneStartsSpec : ChangeSpec := { name := "doneStarts", fn := fun _ => fun
  | [d1, d2, d3] => { results := [.lit (.bool true)], args := [d1, d2, d3] }
  | _ => none }
def doneStartsRow : OpenClaim := { program := "ythdlmnkefheliaa", sum := "5e96b8ff025bd23c2c8c2ab6004fa7562ec713d2b51f41135a951e18b44de1ed", func := "riparian/riparianlaw28.DoneStarts", spec := "doneStarts", unfollowed := true, recurses := true, apart := false }
def DoneStartsSaid : Prop := doneStartsRow.holds Try.pinned (OpenSpec.ofChange doneStartsSpec)

/-- ITS FALSE NEIGHBOUR: 'it returns false'. Refute it at one input. -/
def doneStartsWrong : ChangeSpec := { name := "doneStarts", fn := fun _ => fun
  | [d1, d2, d3] => { results := [.lit (.bool false)], args := [d1, d2, d3] }
  | _ => none }
def DoneStartsWrongFalsely : Prop := doneStartsRow.holds Try.pinned (OpenSpec.ofChange doneStartsWrong)

/-- 'riparianlaw28.DoneMoves': WHATEVER THE INPUT: true; the input reads as it did. -/
def doneMovesSpec : ChangeSpec := { name := "doneMoves", fn := fun _ => fun
  | [d1, d2, d3] => { results := [.lit (.bool true)], args := [d1, d2, d3] }
  | _ => none }
def doneMovesRow : OpenClaim := { program := "ythdlmnkefheliaa", sum := "5e96b8ff025bd23c2c8c2ab6004fa7562ec713d2b51f41135a951e18b44de1ed", func := "riparian/riparianlaw28.DoneMoves", spec := "doneMoves", unfollowed := true, recurses := true, apart := false }
def DoneMovesSaid : Prop := doneMovesRow.holds Try.pinned (OpenSpec.ofChange doneMovesSpec)

/-- ITS FALSE NEIGHBOUR: 'it returns false'. Refute it at one input. -/
def doneMovesWrong : ChangeSpec := { name := "doneMoves", fn := fun _ => fun
  | [d1, d2, d3] => { results := [.lit (.bool false)], args := [d1, d2, d3] }
  | _ => none }
def DoneMovesWrongFalsely : Prop := doneMovesRow.holds Try.pinned (OpenSpec.ofChange doneMovesWrong)

/-- 'riparianlaw28.DonePlans': WHATEVER THE INPUT: true; the input reads as it did. -/
def donePlansSpec : ChangeSpec := { name := "donePlans", fn := fun _ => fun
  | [d1, d2] => { results := [.lit (.bool true)], args := [d1, d2] }
  | _ => none }
def donePlansRow : OpenClaim := { program := "ythdlmnkefheliaa", sum := "5e96b8ff025bd23c2c8c2ab6004fa7562ec713d2b51f41135a951e18b44de1ed", func := "riparian/riparianlaw28.DonePlans", spec := "donePlans", unfollowed := true, recurses := true, apart := false }
def DonePlansSaid : Prop := donePlansRow.holds Try.pinned (OpenSpec.ofChange donePlansSpec)

/-- ITS FALSE NEIGHBOUR: 'it returns false'. Refute it at one input. -/
def donePlansWrong : ChangeSpec := { name := "donePlans", fn := fun _ => fun
  | [d1, d2] => { results := [.lit (.bool false)], args := [d1, d2] }
  | _ => none }
def DonePlansWrongFalsely : Prop := donePlansRow.holds Try.pinned (OpenSpec.ofChange donePlansWrong)

/-- 'riparianlaw28.DoneInvariant': WHATEVER THE INPUT: true; the input reads as it did. -/
def doneInvariantSpec : ChangeSpec := { name := "doneInvariant", fn := fun _ => fun
  | [d1, d2, d3] => { results := [.lit (.bool true)], args := [d1, d2, d3] }
  | _ => none }
def doneInvariantRow : OpenClaim := { program := "ythdlmnkefheliaa", sum := "5e96b8ff025bd23c2c8c2ab6004fa7562ec713d2b51f41135a951e18b44de1ed", func := "riparian/riparianlaw28.DoneInvariant", spec := "doneInvariant", unfollowed := true, recurses := true, apart := false }
def DoneInvariantSaid : Prop := doneInvariantRow.holds Try.pinned (OpenSpec.ofChange doneInvariantSpec)

/-- ITS FALSE NEIGHBOUR: 'it returns false'. Refute it at one input. -/
def doneInvariantWrong : ChangeSpec := { name := "doneInvariant", fn := fun _ => fun
  | [d1, d2, d3] => { results := [.lit (.bool false)], args := [d1, d2, d3] }
  | _ => none }
def DoneInvariantWrongFalsely : Prop := doneInvariantRow.holds Try.pinned (OpenSpec.ofChange doneInvariantWrong)

/-- 'riparianlaw28.DoneGrains': WHATEVER THE INPUT: true; the input reads as it did. -/
def doneGrainsSpec : ChangeSpec := { name := "doneGrains", fn := fun _ => fun
  | [d1, d2, d3, d4] => { results := [.lit (.bool true)], args := [d1, d2, d3, d4] }
  | _ => none }
def doneGrainsRow : OpenClaim := { program := "ythdlmnkefheliaa", sum := "5e96b8ff025bd23c2c8c2ab6004fa7562ec713d2b51f41135a951e18b44de1ed", func := "riparian/riparianlaw28.DoneGrains", spec := "doneGrains", unfollowed := true, recurses := true, apart := false }
def DoneGrainsSaid : Prop := doneGrainsRow.holds Try.pinned (OpenSpec.ofChange doneGrainsSpec)

/-- ITS FALSE NEIGHBOUR: 'it returns false'. Refute it at one input. -/
def doneGrainsWrong : ChangeSpec := { name := "doneGrains", fn := fun _ => fun
  | [d1, d2, d3, d4] => { results := [.lit (.bool false)], args := [d1, d2, d3, d4] }
  | _ => none }
def DoneGrainsWrongFalsely : Prop := doneGrainsRow.holds Try.pinned (OpenSpec.ofChange doneGrainsWrong)

/-- 'riparianlaw28.DoneKeeps': WHATEVER THE INPUT: true; the input reads as it did. -/
def doneKeepsSpec : ChangeSpec := { name := "doneKeeps", fn := fun _ => fun
  | [d] => { results := [.lit (.bool true)], args := [d] }
  | _ => none }
def doneKeepsRow : OpenClaim := { program := "ythdlmnkefheliaa", sum := "5e96b8ff025bd23c2c8c2ab6004fa7562ec713d2b51f41135a951e18b44de1ed", func := "riparian/riparianlaw28.DoneKeeps", spec := "doneKeeps", unfollowed := true, recurses := true, apart := false }
def DoneKeepsSaid : Prop := doneKeepsRow.holds Try.pinned (OpenSpec.ofChange doneKeepsSpec)

/-- ITS FALSE NEIGHBOUR: 'it returns false'. Refute it at one input. -/
def doneKeepsWrong : ChangeSpec := { name := "doneKeeps", fn := fun _ => fun
  | [d] => { results := [.lit (.bool false)], args := [d] }
  | _ => none }
def DoneKeepsWrongFalsely : Prop := doneKeepsRow.holds Try.pinned (OpenSpec.ofChange doneKeepsWrong)

/-- 'riparianlaw28.DoneCounts': WHATEVER THE INPUT: true; the input reads as it did. -/
def doneCountsSpec : ChangeSpec := { name := "doneCounts", fn := fun _ => fun
  | [d1, d2, d3] => { results := [.lit (.bool true)], args := [d1, d2, d3] }
  | _ => none }
def doneCountsRow : OpenClaim := { program := "ythdlmnkefheliaa", sum := "5e96b8ff025bd23c2c8c2ab6004fa7562ec713d2b51f41135a951e18b44de1ed", func := "riparian/riparianlaw28.DoneCounts", spec := "doneCounts", unfollowed := true, recurses := true, apart := false }
def DoneCountsSaid : Prop := doneCountsRow.holds Try.pinned (OpenSpec.ofChange doneCountsSpec)

/-- ITS FALSE NEIGHBOUR: 'it returns false'. Refute it at one input. -/
def doneCountsWrong : ChangeSpec := { name := "doneCounts", fn := fun _ => fun
  | [d1, d2, d3] => { results := [.lit (.bool false)], args := [d1, d2, d3] }
  | _ => none }
def DoneCountsWrongFalsely : Prop := doneCountsRow.holds Try.pinned (OpenSpec.ofChange doneCountsWrong)

/-- 'riparianlaw28.DoneSupplies': WHATEVER THE INPUT: true; the input reads as it did. -/
def doneSuppliesSpec : ChangeSpec := { name := "doneSupplies", fn := fun _ => fun
  | [d1, d2] => { results := [.lit (.bool true)], args := [d1, d2] }
  | _ => none }
def doneSuppliesRow : OpenClaim := { program := "ythdlmnkefheliaa", sum := "5e96b8ff025bd23c2c8c2ab6004fa7562ec713d2b51f41135a951e18b44de1ed", func := "riparian/riparianlaw28.DoneSupplies", spec := "doneSupplies", unfollowed := true, recurses := true, apart := false }
def DoneSuppliesSaid : Prop := doneSuppliesRow.holds Try.pinned (OpenSpec.ofChange doneSuppliesSpec)

/-- ITS FALSE NEIGHBOUR: 'it returns false'. Refute it at one input. -/
def doneSuppliesWrong : ChangeSpec := { name := "doneSupplies", fn := fun _ => fun
  | [d1, d2] => { results := [.lit (.bool false)], args := [d1, d2] }
  | _ => none }
def DoneSuppliesWrongFalsely : Prop := doneSuppliesRow.holds Try.pinned (OpenSpec.ofChange doneSuppliesWrong)

/-- 'riparianlaw28.DoneAnyOrder': WHATEVER THE INPUT: true; the input reads as it did. -/
def doneAnyOrderSpec : ChangeSpec := { name := "doneAnyOrder", fn := fun _ => fun
  | [d1, d2, d3] => { results := [.lit (.bool true)], args := [d1, d2, d3] }
  | _ => none }
def doneAnyOrderRow : OpenClaim := { program := "ythdlmnkefheliaa", sum := "5e96b8ff025bd23c2c8c2ab6004fa7562ec713d2b51f41135a951e18b44de1ed", func := "riparian/riparianlaw28.DoneAnyOrder", spec := "doneAnyOrder", unfollowed := true, recurses := true, apart := false }
def DoneAnyOrderSaid : Prop := doneAnyOrderRow.holds Try.pinned (OpenSpec.ofChange doneAnyOrderSpec)

/-- ITS FALSE NEIGHBOUR: 'it returns false'. Refute it at one input. -/
def doneAnyOrderWrong : ChangeSpec := { name := "doneAnyOrder", fn := fun _ => fun
  | [d1, d2, d3] => { results := [.lit (.bool false)], args := [d1, d2, d3] }
  | _ => none }
def DoneAnyOrderWrongFalsely : Prop := doneAnyOrderRow.holds Try.pinned (OpenSpec.ofChange doneAnyOrderWrong)

/-- 'riparianlaw28.DoneSettles': WHATEVER THE INPUT: true; the input reads as it did. -/
def doneSettlesSpec : ChangeSpec := { name := "doneSettles", fn := fun _ => fun
  | [d1, d2] => { results := [.lit (.bool true)], args := [d1, d2] }
  | _ => none }
def doneSettlesRow : OpenClaim := { program := "ythdlmnkefheliaa", sum := "5e96b8ff025bd23c2c8c2ab6004fa7562ec713d2b51f41135a951e18b44de1ed", func := "riparian/riparianlaw28.DoneSettles", spec := "doneSettles", unfollowed := true, recurses := true, apart := false }
def DoneSettlesSaid : Prop := doneSettlesRow.holds Try.pinned (OpenSpec.ofChange doneSettlesSpec)

/-- ITS FALSE NEIGHBOUR: 'it returns false'. Refute it at one input. -/
def doneSettlesWrong : ChangeSpec := { name := "doneSettles", fn := fun _ => fun
  | [d1, d2] => { results := [.lit (.bool false)], args := [d1, d2] }
  | _ => none }
def DoneSettlesWrongFalsely : Prop := doneSettlesRow.holds Try.pinned (OpenSpec.ofChange doneSettlesWrong)

/-- 'riparianlaw28.DoneTold': WHATEVER THE INPUT: true; the input reads as it did. -/
def doneToldSpec : ChangeSpec := { name := "doneTold", fn := fun _ => fun
  | [d1, d2, d3, d4] => { results := [.lit (.bool true)], args := [d1, d2, d3, d4] }
  | _ => none }
def doneToldRow : OpenClaim := { program := "ythdlmnkefheliaa", sum := "5e96b8ff025bd23c2c8c2ab6004fa7562ec713d2b51f41135a951e18b44de1ed", func := "riparian/riparianlaw28.DoneTold", spec := "doneTold", unfollowed := true, recurses := true, apart := false }
def DoneToldSaid : Prop := doneToldRow.holds Try.pinned (OpenSpec.ofChange doneToldSpec)

/-- ITS FALSE NEIGHBOUR: 'it returns false'. Refute it at one input. -/
def doneToldWrong : ChangeSpec := { name := "doneTold", fn := fun _ => fun
  | [d1, d2, d3, d4] => { results := [.lit (.bool false)], args := [d1, d2, d3, d4] }
  | _ => none }
def DoneToldWrongFalsely : Prop := doneToldRow.holds Try.pinned (OpenSpec.ofChange doneToldWrong)

/-- 'riparianlaw28.DoneBalanced': WHATEVER THE INPUT: true; the input reads as it did. -/
def doneBalancedSpec : ChangeSpec := { name := "doneBalanced", fn := fun _ => fun
  | [d] => { results := [.lit (.bool true)], args := [d] }
  | _ => none }
def doneBalancedRow : OpenClaim := { program := "ythdlmnkefheliaa", sum := "5e96b8ff025bd23c2c8c2ab6004fa7562ec713d2b51f41135a951e18b44de1ed", func := "riparian/riparianlaw28.DoneBalanced", spec := "doneBalanced", unfollowed := true, recurses := true, apart := false }
def DoneBalancedSaid : Prop := doneBalancedRow.holds Try.pinned (OpenSpec.ofChange doneBalancedSpec)

/-- ITS FALSE NEIGHBOUR: 'it returns false'. Refute it at one input. -/
def doneBalancedWrong : ChangeSpec := { name := "doneBalanced", fn := fun _ => fun
  | [d] => { results := [.lit (.bool false)], args := [d] }
  | _ => none }
def DoneBalancedWrongFalsely : Prop := doneBalancedRow.holds Try.pinned (OpenSpec.ofChange doneBalancedWrong)

/- THE SECOND FORM. 'bulk': how many values and letters a reading holds, each counted each time it is reached (what is shared counts as often as it is met; a slice's spare places count too). A statement '..UptoSaid' is the law's where the arguments, and the package variables that the reading takes, are together of bulk at most 1048576: NARROWER than '..Said'. Prove '..Said' where nothing that the law and all that it calls make is longer than what came in: it says more and counts as full. Else prove '..UptoSaid'. A law counts once. -/
mutual
def uptoBulk {H : Type} : DataW H → Nat
  | .lit (.string bytes) => bytes.length + 1
  | .lit _ => 1
  | .nil => 1
  | .ptr d => uptoBulk d + 1
  | .slice elems spare => uptoBulkAll elems + uptoBulkAll spare + 1
  | .agg parts => uptoBulkAll parts + 1
  | .iface _ d => uptoBulk d + 1
  | .map entries => uptoBulkEntries entries + 1
  | .held _ => 1
def uptoBulkAll {H : Type} : List (DataW H) → Nat
  | [] => 0
  | d :: r => uptoBulk d + uptoBulkAll r
def uptoBulkEntries {H : Type} : List (Lit × DataW H) → Nat
  | [] => 0
  | x :: r => uptoBulkEntry x + uptoBulkEntries r
def uptoBulkEntry {H : Type} : Lit × DataW H → Nat
  | (.string bytes, d) => bytes.length + uptoBulk d + 1
  | (_, d) => uptoBulk d + 1
 end
def uptoSmall : (H : Type) → List (DataW H) → Bool := fun _ ds => decide (uptoBulkAll ds ≤ 1048576)
def OpenSpec.upto (s : _root_.Go.ChangeSpec) : _root_.Go.OpenSpec := { _root_.Go.OpenSpec.ofChange s with cond := some uptoSmall }

/-- 'riparianlaw28.DoneStarts', WHERE WHAT IT READS IS OF BULK AT MOST 1048576: true; the input reads as it did. -/
def doneStartsUptoRow : OpenClaim := { program := "ythdlmnkefheliaa", sum := "5e96b8ff025bd23c2c8c2ab6004fa7562ec713d2b51f41135a951e18b44de1ed", func := "riparian/riparianlaw28.DoneStarts", spec := "doneStarts", unfollowed := true, recurses := true, apart := false, narrowed := true }
def DoneStartsUptoSaid : Prop := doneStartsUptoRow.holds Try.pinned (OpenSpec.upto doneStartsSpec)

/-- 'riparianlaw28.DoneMoves', WHERE WHAT IT READS IS OF BULK AT MOST 1048576: true; the input reads as it did. -/
def doneMovesUptoRow : OpenClaim := { program := "ythdlmnkefheliaa", sum := "5e96b8ff025bd23c2c8c2ab6004fa7562ec713d2b51f41135a951e18b44de1ed", func := "riparian/riparianlaw28.DoneMoves", spec := "doneMoves", unfollowed := true, recurses := true, apart := false, narrowed := true }
def DoneMovesUptoSaid : Prop := doneMovesUptoRow.holds Try.pinned (OpenSpec.upto doneMovesSpec)

/-- 'riparianlaw28.DonePlans', WHERE WHAT IT READS IS OF BULK AT MOST 1048576: true; the input reads as it did. -/
def donePlansUptoRow : OpenClaim := { program := "ythdlmnkefheliaa", sum := "5e96b8ff025bd23c2c8c2ab6004fa7562ec713d2b51f41135a951e18b44de1ed", func := "riparian/riparianlaw28.DonePlans", spec := "donePlans", unfollowed := true, recurses := true, apart := false, narrowed := true }
def DonePlansUptoSaid : Prop := donePlansUptoRow.holds Try.pinned (OpenSpec.upto donePlansSpec)

/-- 'riparianlaw28.DoneInvariant', WHERE WHAT IT READS IS OF BULK AT MOST 1048576: true; the input reads as it did. -/
def doneInvariantUptoRow : OpenClaim := { program := "ythdlmnkefheliaa", sum := "5e96b8ff025bd23c2c8c2ab6004fa7562ec713d2b51f41135a951e18b44de1ed", func := "riparian/riparianlaw28.DoneInvariant", spec := "doneInvariant", unfollowed := true, recurses := true, apart := false, narrowed := true }
def DoneInvariantUptoSaid : Prop := doneInvariantUptoRow.holds Try.pinned (OpenSpec.upto doneInvariantSpec)

/-- 'riparianlaw28.DoneGrains', WHERE WHAT IT READS IS OF BULK AT MOST 1048576: true; the input reads as it did. -/
def doneGrainsUptoRow : OpenClaim := { program := "ythdlmnkefheliaa", sum := "5e96b8ff025bd23c2c8c2ab6004fa7562ec713d2b51f41135a951e18b44de1ed", func := "riparian/riparianlaw28.DoneGrains", spec := "doneGrains", unfollowed := true, recurses := true, apart := false, narrowed := true }
def DoneGrainsUptoSaid : Prop := doneGrainsUptoRow.holds Try.pinned (OpenSpec.upto doneGrainsSpec)

/-- 'riparianlaw28.DoneKeeps', WHERE WHAT IT READS IS OF BULK AT MOST 1048576: true; the input reads as it did. -/
def doneKeepsUptoRow : OpenClaim := { program := "ythdlmnkefheliaa", sum := "5e96b8ff025bd23c2c8c2ab6004fa7562ec713d2b51f41135a951e18b44de1ed", func := "riparian/riparianlaw28.DoneKeeps", spec := "doneKeeps", unfollowed := true, recurses := true, apart := false, narrowed := true }
def DoneKeepsUptoSaid : Prop := doneKeepsUptoRow.holds Try.pinned (OpenSpec.upto doneKeepsSpec)

/-- 'riparianlaw28.DoneCounts', WHERE WHAT IT READS IS OF BULK AT MOST 1048576: true; the input reads as it did. -/
def doneCountsUptoRow : OpenClaim := { program := "ythdlmnkefheliaa", sum := "5e96b8ff025bd23c2c8c2ab6004fa7562ec713d2b51f41135a951e18b44de1ed", func := "riparian/riparianlaw28.DoneCounts", spec := "doneCounts", unfollowed := true, recurses := true, apart := false, narrowed := true }
def DoneCountsUptoSaid : Prop := doneCountsUptoRow.holds Try.pinned (OpenSpec.upto doneCountsSpec)

/-- 'riparianlaw28.DoneSupplies', WHERE WHAT IT READS IS OF BULK AT MOST 1048576: true; the input reads as it did. -/
def doneSuppliesUptoRow : OpenClaim := { program := "ythdlmnkefheliaa", sum := "5e96b8ff025bd23c2c8c2ab6004fa7562ec713d2b51f41135a951e18b44de1ed", func := "riparian/riparianlaw28.DoneSupplies", spec := "doneSupplies", unfollowed := true, recurses := true, apart := false, narrowed := true }
def DoneSuppliesUptoSaid : Prop := doneSuppliesUptoRow.holds Try.pinned (OpenSpec.upto doneSuppliesSpec)

/-- 'riparianlaw28.DoneAnyOrder', WHERE WHAT IT READS IS OF BULK AT MOST 1048576: true; the input reads as it did. -/
def doneAnyOrderUptoRow : OpenClaim := { program := "ythdlmnkefheliaa", sum := "5e96b8ff025bd23c2c8c2ab6004fa7562ec713d2b51f41135a951e18b44de1ed", func := "riparian/riparianlaw28.DoneAnyOrder", spec := "doneAnyOrder", unfollowed := true, recurses := true, apart := false, narrowed := true }
def DoneAnyOrderUptoSaid : Prop := doneAnyOrderUptoRow.holds Try.pinned (OpenSpec.upto doneAnyOrderSpec)

/-- 'riparianlaw28.DoneSettles', WHERE WHAT IT READS IS OF BULK AT MOST 1048576: true; the input reads as it did. -/
def doneSettlesUptoRow : OpenClaim := { program := "ythdlmnkefheliaa", sum := "5e96b8ff025bd23c2c8c2ab6004fa7562ec713d2b51f41135a951e18b44de1ed", func := "riparian/riparianlaw28.DoneSettles", spec := "doneSettles", unfollowed := true, recurses := true, apart := false, narrowed := true }
def DoneSettlesUptoSaid : Prop := doneSettlesUptoRow.holds Try.pinned (OpenSpec.upto doneSettlesSpec)

/-- 'riparianlaw28.DoneTold', WHERE WHAT IT READS IS OF BULK AT MOST 1048576: true; the input reads as it did. -/
def doneToldUptoRow : OpenClaim := { program := "ythdlmnkefheliaa", sum := "5e96b8ff025bd23c2c8c2ab6004fa7562ec713d2b51f41135a951e18b44de1ed", func := "riparian/riparianlaw28.DoneTold", spec := "doneTold", unfollowed := true, recurses := true, apart := false, narrowed := true }
def DoneToldUptoSaid : Prop := doneToldUptoRow.holds Try.pinned (OpenSpec.upto doneToldSpec)

/-- 'riparianlaw28.DoneBalanced', WHERE WHAT IT READS IS OF BULK AT MOST 1048576: true; the input reads as it did. -/
def doneBalancedUptoRow : OpenClaim := { program := "ythdlmnkefheliaa", sum := "5e96b8ff025bd23c2c8c2ab6004fa7562ec713d2b51f41135a951e18b44de1ed", func := "riparian/riparianlaw28.DoneBalanced", spec := "doneBalanced", unfollowed := true, recurses := true, apart := false, narrowed := true }
def DoneBalancedUptoSaid : Prop := doneBalancedUptoRow.holds Try.pinned (OpenSpec.upto doneBalancedSpec)

end Rows
end Go.Proofs.Ythdlmnkefheliaa
