/-
  NARROWER THAN 'FOR EVERY INPUT', by the rows' own cells (each row's printed sentence says how): TermChecks: loops · TermTotal: loops · TermMatches: loops · TermLeast: loops · TermInstances: loops · TermNormal: loops · TermGround: loops · TermComposed: loops · TermSubsts: loops · TermLists: loops · TermItems: loops · TermPlaces: loops · TermEdits: loops.
  DERIVED. THE GIVEN ROWS OF THIS SEAT. 13 by the template 'for every input the law returns true; each argument reads behind the call as it read before'; 0 by the template 'total and deterministic' (their statements: YtfhgknmkpegpbaaTotals.lean).
  GIVEN WITH THE SEED: the statements are not yours to turn. If you find one false, say at which input.
  Laid BY PROGRAM, IN A SANDBOX (cutbox-rows.mjs): the forced cells as the released guide's own fill.sh prints them over the translation 9538cc191165fc31… (all of the seat's roots in one cut). By AI agents, Wed Nov 11 2026. No macro, syntax, notation, axiom, sorry.
-/
import Derived.Test.YtfhgknmkpegpbaaChecked
import GoSem.Claim
import GoSem.ClaimJoined
import GoSem.ClaimMapViews
import Derived.JoinedTies
import Derived.KernelRfl
namespace Go.Proofs.Ytfhgknmkpegpbaa
/- THE CELL 'sum', in the pinned program and in every row, IS THE sha256 OF THE DUMP (.gsa) THAT YtfhgknmkpegpbaaProg.lean LOADS. Nothing in Lean hashes anything: it is a label: what it is worth is what the hold of that sum in a sandbox is worth. -/
noncomputable def Try.pinned : Pinned := { name := "ytfhgknmkpegpbaa", sum := "9538cc191165fc310666f6f312800d207a77461a0ad1c7a6b24bfbef821cea55", checked := Try.checked }
namespace Rows
def none {H : Type} : Left H := { results := [], args := [] }

/-- 'riparianlaw01.TermChecks': WHATEVER THE INPUT: true; the input reads as it did. -/
def termChecksSpec : ChangeSpec := { name := "termChecks", fn := fun _ => fun
  | [d] => { results := [.lit (.bool true)], args := [d] }
  | _ => none }
def termChecksRow : OpenClaim := { program := "ytfhgknmkpegpbaa", sum := "9538cc191165fc310666f6f312800d207a77461a0ad1c7a6b24bfbef821cea55", func := "riparian/riparianlaw01.TermChecks", spec := "termChecks", inPlace := ["internal/abi.NoEscape"], unfollowed := true, recurses := true, loops := true, apart := false }
def TermChecksSaid : Prop := termChecksRow.holds Try.pinned (OpenSpec.ofChange termChecksSpec)

/-- ITS FALSE NEIGHBOUR: 'it returns false'. Refute it at one input. -/
def termChecksWrong : ChangeSpec := { name := "termChecks", fn := fun _ => fun
  | [d] => { results := [.lit (.bool false)], args := [d] }
  | _ => none }
def TermChecksWrongFalsely : Prop := termChecksRow.holds Try.pinned (OpenSpec.ofChange termChecksWrong)

/-- 'riparianlaw01.TermTotal': WHATEVER THE INPUT: true; the input reads as it did. -/
def termTotalSpec : ChangeSpec := { name := "termTotal", fn := fun _ => fun
  | [d1, d2, d3] => { results := [.lit (.bool true)], args := [d1, d2, d3] }
  | _ => none }
def termTotalRow : OpenClaim := { program := "ytfhgknmkpegpbaa", sum := "9538cc191165fc310666f6f312800d207a77461a0ad1c7a6b24bfbef821cea55", func := "riparian/riparianlaw01.TermTotal", spec := "termTotal", inPlace := ["internal/abi.NoEscape"], unfollowed := true, recurses := true, loops := true, apart := false }
def TermTotalSaid : Prop := termTotalRow.holds Try.pinned (OpenSpec.ofChange termTotalSpec)

/-- ITS FALSE NEIGHBOUR: 'it returns false'. Refute it at one input. -/
def termTotalWrong : ChangeSpec := { name := "termTotal", fn := fun _ => fun
  | [d1, d2, d3] => { results := [.lit (.bool false)], args := [d1, d2, d3] }
  | _ => none }
def TermTotalWrongFalsely : Prop := termTotalRow.holds Try.pinned (OpenSpec.ofChange termTotalWrong)

/-- 'riparianlaw01.TermMatches': WHATEVER THE INPUT: true; the input reads as it did. -/
def termMatchesSpec : ChangeSpec := { name := "termMatches", fn := fun _ => fun
  | [d1, d2, d3] => { results := [.lit (.bool true)], args := [d1, d2, d3] }
  | _ => none }
def termMatchesRow : OpenClaim := { program := "ytfhgknmkpegpbaa", sum := "9538cc191165fc310666f6f312800d207a77461a0ad1c7a6b24bfbef821cea55", func := "riparian/riparianlaw01.TermMatches", spec := "termMatches", inPlace := ["internal/abi.NoEscape"], unfollowed := true, recurses := true, loops := true, apart := false }
def TermMatchesSaid : Prop := termMatchesRow.holds Try.pinned (OpenSpec.ofChange termMatchesSpec)

/-- ITS FALSE NEIGHBOUR: 'it returns false'. Refute it at one input. -/
def termMatchesWrong : ChangeSpec := { name := "termMatches", fn := fun _ => fun
  | [d1, d2, d3] => { results := [.lit (.bool false)], args := [d1, d2, d3] }
  | _ => none }
def TermMatchesWrongFalsely : Prop := termMatchesRow.holds Try.pinned (OpenSpec.ofChange termMatchesWrong)

/-- 'riparianlaw01.TermLeast': WHATEVER THE INPUT: true; the input reads as it did. -/
def termLeastSpec : ChangeSpec := { name := "termLeast", fn := fun _ => fun
  | [d1, d2, d3, d4] => { results := [.lit (.bool true)], args := [d1, d2, d3, d4] }
  | _ => none }
def termLeastRow : OpenClaim := { program := "ytfhgknmkpegpbaa", sum := "9538cc191165fc310666f6f312800d207a77461a0ad1c7a6b24bfbef821cea55", func := "riparian/riparianlaw01.TermLeast", spec := "termLeast", inPlace := ["internal/abi.NoEscape"], unfollowed := true, recurses := true, loops := true, apart := false }
def TermLeastSaid : Prop := termLeastRow.holds Try.pinned (OpenSpec.ofChange termLeastSpec)

/-- ITS FALSE NEIGHBOUR: 'it returns false'. Refute it at one input. -/
def termLeastWrong : ChangeSpec := { name := "termLeast", fn := fun _ => fun
  | [d1, d2, d3, d4] => { results := [.lit (.bool false)], args := [d1, d2, d3, d4] }
  | _ => none }
def TermLeastWrongFalsely : Prop := termLeastRow.holds Try.pinned (OpenSpec.ofChange termLeastWrong)

/-- 'riparianlaw01.TermInstances': WHATEVER THE INPUT: true; the input reads as it did. -/
def termInstancesSpec : ChangeSpec := { name := "termInstances", fn := fun _ => fun
  | [d1, d2, d3] => { results := [.lit (.bool true)], args := [d1, d2, d3] }
  | _ => none }
def termInstancesRow : OpenClaim := { program := "ytfhgknmkpegpbaa", sum := "9538cc191165fc310666f6f312800d207a77461a0ad1c7a6b24bfbef821cea55", func := "riparian/riparianlaw01.TermInstances", spec := "termInstances", inPlace := ["internal/abi.NoEscape"], unfollowed := true, recurses := true, loops := true, apart := false }
def TermInstancesSaid : Prop := termInstancesRow.holds Try.pinned (OpenSpec.ofChange termInstancesSpec)

/-- ITS FALSE NEIGHBOUR: 'it returns false'. Refute it at one input. -/
def termInstancesWrong : ChangeSpec := { name := "termInstances", fn := fun _ => fun
  | [d1, d2, d3] => { results := [.lit (.bool false)], args := [d1, d2, d3] }
  | _ => none }
def TermInstancesWrongFalsely : Prop := termInstancesRow.holds Try.pinned (OpenSpec.ofChange termInstancesWrong)

/-- 'riparianlaw01.TermNormal': WHATEVER THE INPUT: true; the input reads as it did. -/
def termNormalSpec : ChangeSpec := { name := "termNormal", fn := fun _ => fun
  | [d1, d2] => { results := [.lit (.bool true)], args := [d1, d2] }
  | _ => none }
def termNormalRow : OpenClaim := { program := "ytfhgknmkpegpbaa", sum := "9538cc191165fc310666f6f312800d207a77461a0ad1c7a6b24bfbef821cea55", func := "riparian/riparianlaw01.TermNormal", spec := "termNormal", inPlace := ["internal/abi.NoEscape"], unfollowed := true, recurses := true, loops := true, apart := false }
def TermNormalSaid : Prop := termNormalRow.holds Try.pinned (OpenSpec.ofChange termNormalSpec)

/-- ITS FALSE NEIGHBOUR: 'it returns false'. Refute it at one input. -/
def termNormalWrong : ChangeSpec := { name := "termNormal", fn := fun _ => fun
  | [d1, d2] => { results := [.lit (.bool false)], args := [d1, d2] }
  | _ => none }
def TermNormalWrongFalsely : Prop := termNormalRow.holds Try.pinned (OpenSpec.ofChange termNormalWrong)

/-- 'riparianlaw01.TermGround': WHATEVER THE INPUT: true; the input reads as it did. -/
def termGroundSpec : ChangeSpec := { name := "termGround", fn := fun _ => fun
  | [d1, d2] => { results := [.lit (.bool true)], args := [d1, d2] }
  | _ => none }
def termGroundRow : OpenClaim := { program := "ytfhgknmkpegpbaa", sum := "9538cc191165fc310666f6f312800d207a77461a0ad1c7a6b24bfbef821cea55", func := "riparian/riparianlaw01.TermGround", spec := "termGround", inPlace := ["internal/abi.NoEscape"], unfollowed := true, recurses := true, loops := true, apart := false }
def TermGroundSaid : Prop := termGroundRow.holds Try.pinned (OpenSpec.ofChange termGroundSpec)

/-- ITS FALSE NEIGHBOUR: 'it returns false'. Refute it at one input. -/
def termGroundWrong : ChangeSpec := { name := "termGround", fn := fun _ => fun
  | [d1, d2] => { results := [.lit (.bool false)], args := [d1, d2] }
  | _ => none }
def TermGroundWrongFalsely : Prop := termGroundRow.holds Try.pinned (OpenSpec.ofChange termGroundWrong)

/-- 'riparianlaw01.TermComposed': WHATEVER THE INPUT: true; the input reads as it did. -/
def termComposedSpec : ChangeSpec := { name := "termComposed", fn := fun _ => fun
  | [d1, d2, d3, d4] => { results := [.lit (.bool true)], args := [d1, d2, d3, d4] }
  | _ => none }
def termComposedRow : OpenClaim := { program := "ytfhgknmkpegpbaa", sum := "9538cc191165fc310666f6f312800d207a77461a0ad1c7a6b24bfbef821cea55", func := "riparian/riparianlaw01.TermComposed", spec := "termComposed", inPlace := ["internal/abi.NoEscape"], unfollowed := true, recurses := true, loops := true, apart := false }
def TermComposedSaid : Prop := termComposedRow.holds Try.pinned (OpenSpec.ofChange termComposedSpec)

/-- ITS FALSE NEIGHBOUR: 'it returns false'. Refute it at one input. -/
def termComposedWrong : ChangeSpec := { name := "termComposed", fn := fun _ => fun
  | [d1, d2, d3, d4] => { results := [.lit (.bool false)], args := [d1, d2, d3, d4] }
  | _ => none }
def TermComposedWrongFalsely : Prop := termComposedRow.holds Try.pinned (OpenSpec.ofChange termComposedWrong)

/-- 'riparianlaw01.TermSubsts': WHATEVER THE INPUT: true; the input reads as it did. -/
def termSubstsSpec : ChangeSpec := { name := "termSubsts", fn := fun _ => fun
  | [d1, d2, d3, d4] => { results := [.lit (.bool true)], args := [d1, d2, d3, d4] }
  | _ => none }
def termSubstsRow : OpenClaim := { program := "ytfhgknmkpegpbaa", sum := "9538cc191165fc310666f6f312800d207a77461a0ad1c7a6b24bfbef821cea55", func := "riparian/riparianlaw01.TermSubsts", spec := "termSubsts", inPlace := ["internal/abi.NoEscape"], unfollowed := true, recurses := true, loops := true, apart := false }
def TermSubstsSaid : Prop := termSubstsRow.holds Try.pinned (OpenSpec.ofChange termSubstsSpec)

/-- ITS FALSE NEIGHBOUR: 'it returns false'. Refute it at one input. -/
def termSubstsWrong : ChangeSpec := { name := "termSubsts", fn := fun _ => fun
  | [d1, d2, d3, d4] => { results := [.lit (.bool false)], args := [d1, d2, d3, d4] }
  | _ => none }
def TermSubstsWrongFalsely : Prop := termSubstsRow.holds Try.pinned (OpenSpec.ofChange termSubstsWrong)

/-- 'riparianlaw01.TermLists': WHATEVER THE INPUT: true; the input reads as it did. -/
def termListsSpec : ChangeSpec := { name := "termLists", fn := fun _ => fun
  | [d1, d2, d3] => { results := [.lit (.bool true)], args := [d1, d2, d3] }
  | _ => none }
def termListsRow : OpenClaim := { program := "ytfhgknmkpegpbaa", sum := "9538cc191165fc310666f6f312800d207a77461a0ad1c7a6b24bfbef821cea55", func := "riparian/riparianlaw01.TermLists", spec := "termLists", inPlace := ["internal/abi.NoEscape"], unfollowed := true, recurses := true, loops := true, apart := false }
def TermListsSaid : Prop := termListsRow.holds Try.pinned (OpenSpec.ofChange termListsSpec)

/-- ITS FALSE NEIGHBOUR: 'it returns false'. Refute it at one input. -/
def termListsWrong : ChangeSpec := { name := "termLists", fn := fun _ => fun
  | [d1, d2, d3] => { results := [.lit (.bool false)], args := [d1, d2, d3] }
  | _ => none }
def TermListsWrongFalsely : Prop := termListsRow.holds Try.pinned (OpenSpec.ofChange termListsWrong)

/-- 'riparianlaw01.TermItems': WHATEVER THE INPUT: true; the input reads as it did. -/
def termItemsSpec : ChangeSpec := { name := "termItems", fn := fun _ => fun
  | [d1, d2, d3] => { results := [.lit (.bool true)], args := [d1, d2, d3] }
  | _ => none }
def termItemsRow : OpenClaim := { program := "ytfhgknmkpegpbaa", sum := "9538cc191165fc310666f6f312800d207a77461a0ad1c7a6b24bfbef821cea55", func := "riparian/riparianlaw01.TermItems", spec := "termItems", inPlace := ["internal/abi.NoEscape"], unfollowed := true, recurses := true, loops := true, apart := false }
def TermItemsSaid : Prop := termItemsRow.holds Try.pinned (OpenSpec.ofChange termItemsSpec)

/-- ITS FALSE NEIGHBOUR: 'it returns false'. Refute it at one input. -/
def termItemsWrong : ChangeSpec := { name := "termItems", fn := fun _ => fun
  | [d1, d2, d3] => { results := [.lit (.bool false)], args := [d1, d2, d3] }
  | _ => none }
def TermItemsWrongFalsely : Prop := termItemsRow.holds Try.pinned (OpenSpec.ofChange termItemsWrong)

/-- 'riparianlaw01.TermPlaces': WHATEVER THE INPUT: true; the input reads as it did. -/
def termPlacesSpec : ChangeSpec := { name := "termPlaces", fn := fun _ => fun
  | [d1, d2, d3] => { results := [.lit (.bool true)], args := [d1, d2, d3] }
  | _ => none }
def termPlacesRow : OpenClaim := { program := "ytfhgknmkpegpbaa", sum := "9538cc191165fc310666f6f312800d207a77461a0ad1c7a6b24bfbef821cea55", func := "riparian/riparianlaw01.TermPlaces", spec := "termPlaces", inPlace := ["internal/abi.NoEscape"], unfollowed := true, recurses := true, loops := true, apart := false }
def TermPlacesSaid : Prop := termPlacesRow.holds Try.pinned (OpenSpec.ofChange termPlacesSpec)

/-- ITS FALSE NEIGHBOUR: 'it returns false'. Refute it at one input. -/
def termPlacesWrong : ChangeSpec := { name := "termPlaces", fn := fun _ => fun
  | [d1, d2, d3] => { results := [.lit (.bool false)], args := [d1, d2, d3] }
  | _ => none }
def TermPlacesWrongFalsely : Prop := termPlacesRow.holds Try.pinned (OpenSpec.ofChange termPlacesWrong)

/-- 'riparianlaw01.TermEdits': WHATEVER THE INPUT: true; the input reads as it did. -/
def termEditsSpec : ChangeSpec := { name := "termEdits", fn := fun _ => fun
  | [d1, d2, d3] => { results := [.lit (.bool true)], args := [d1, d2, d3] }
  | _ => none }
def termEditsRow : OpenClaim := { program := "ytfhgknmkpegpbaa", sum := "9538cc191165fc310666f6f312800d207a77461a0ad1c7a6b24bfbef821cea55", func := "riparian/riparianlaw01.TermEdits", spec := "termEdits", inPlace := ["internal/abi.NoEscape"], unfollowed := true, recurses := true, loops := true, apart := false }
def TermEditsSaid : Prop := termEditsRow.holds Try.pinned (OpenSpec.ofChange termEditsSpec)

/-- ITS FALSE NEIGHBOUR: 'it returns false'. Refute it at one input. -/
def termEditsWrong : ChangeSpec := { name := "termEdits", fn := fun _ => fun
  | [d1, d2, d3] => { results := [.lit (.bool false)], args := [d1, d2, d3] }
  | _ => none }
def TermEditsWrongFalsely : Prop := termEditsRow.holds Try.pinned (OpenSpec.ofChange termEditsWrong)

/- THE SECOND FORM. 'bulk': how many values and letters a reading holds, each counted each time it is reached (what is shared counts as often as it is met; a slice's spare places count too). A statement '..UptoSaid' is the law's where the arguments, and the package variables that the reading takes, are together of bulk at most 1048576: NARROWER than '..Said'. Prove '..Said' where nothing that the law and all that it calls make is longer than what came in: it says more and counts as full. Else prove '..UptoSaid'. A law counts once. -/
mutual
def uptoBulk {H : Type} : DataW H → Nat
  | .lit (.string bytes) => bytes.length + 1
  | .lit _ => 1
  | .nil => 1
  | .ptr d => uptoBulk d + 1
  | .slice elems spare => uptoBulkAll elems + uptoBulkAll spare + 1
  | .agg parts => uptoBulkAll parts + 1
  | .iface _ d => uptoBulk d + 1
  | .map entries => uptoBulkEntries entries + 1
  | .held _ => 1
def uptoBulkAll {H : Type} : List (DataW H) → Nat
  | [] => 0
  | d :: r => uptoBulk d + uptoBulkAll r
def uptoBulkEntries {H : Type} : List (Lit × DataW H) → Nat
  | [] => 0
  | x :: r => uptoBulkEntry x + uptoBulkEntries r
def uptoBulkEntry {H : Type} : Lit × DataW H → Nat
  | (.string bytes, d) => bytes.length + uptoBulk d + 1
  | (_, d) => uptoBulk d + 1
 end
def uptoSmall : (H : Type) → List (DataW H) → Bool := fun _ ds => decide (uptoBulkAll ds ≤ 1048576)
def OpenSpec.upto (s : _root_.Go.ChangeSpec) : _root_.Go.OpenSpec := { _root_.Go.OpenSpec.ofChange s with cond := some uptoSmall }

/-- 'riparianlaw01.TermChecks', WHERE WHAT IT READS IS OF BULK AT MOST 1048576: true; the input reads as it did. -/
def termChecksUptoRow : OpenClaim := { program := "ytfhgknmkpegpbaa", sum := "9538cc191165fc310666f6f312800d207a77461a0ad1c7a6b24bfbef821cea55", func := "riparian/riparianlaw01.TermChecks", spec := "termChecks", inPlace := ["internal/abi.NoEscape"], unfollowed := true, recurses := true, loops := true, apart := false, narrowed := true }
def TermChecksUptoSaid : Prop := termChecksUptoRow.holds Try.pinned (OpenSpec.upto termChecksSpec)

/-- 'riparianlaw01.TermTotal', WHERE WHAT IT READS IS OF BULK AT MOST 1048576: true; the input reads as it did. -/
def termTotalUptoRow : OpenClaim := { program := "ytfhgknmkpegpbaa", sum := "9538cc191165fc310666f6f312800d207a77461a0ad1c7a6b24bfbef821cea55", func := "riparian/riparianlaw01.TermTotal", spec := "termTotal", inPlace := ["internal/abi.NoEscape"], unfollowed := true, recurses := true, loops := true, apart := false, narrowed := true }
def TermTotalUptoSaid : Prop := termTotalUptoRow.holds Try.pinned (OpenSpec.upto termTotalSpec)

/-- 'riparianlaw01.TermMatches', WHERE WHAT IT READS IS OF BULK AT MOST 1048576: true; the input reads as it did. -/
def termMatchesUptoRow : OpenClaim := { program := "ytfhgknmkpegpbaa", sum := "9538cc191165fc310666f6f312800d207a77461a0ad1c7a6b24bfbef821cea55", func := "riparian/riparianlaw01.TermMatches", spec := "termMatches", inPlace := ["internal/abi.NoEscape"], unfollowed := true, recurses := true, loops := true, apart := false, narrowed := true }
def TermMatchesUptoSaid : Prop := termMatchesUptoRow.holds Try.pinned (OpenSpec.upto termMatchesSpec)

/-- 'riparianlaw01.TermLeast', WHERE WHAT IT READS IS OF BULK AT MOST 1048576: true; the input reads as it did. -/
def termLeastUptoRow : OpenClaim := { program := "ytfhgknmkpegpbaa", sum := "9538cc191165fc310666f6f312800d207a77461a0ad1c7a6b24bfbef821cea55", func := "riparian/riparianlaw01.TermLeast", spec := "termLeast", inPlace := ["internal/abi.NoEscape"], unfollowed := true, recurses := true, loops := true, apart := false, narrowed := true }
def TermLeastUptoSaid : Prop := termLeastUptoRow.holds Try.pinned (OpenSpec.upto termLeastSpec)

/-- 'riparianlaw01.TermInstances', WHERE WHAT IT READS IS OF BULK AT MOST 1048576: true; the input reads as it did. -/
def termInstancesUptoRow : OpenClaim := { program := "ytfhgknmkpegpbaa", sum := "9538cc191165fc310666f6f312800d207a77461a0ad1c7a6b24bfbef821cea55", func := "riparian/riparianlaw01.TermInstances", spec := "termInstances", inPlace := ["internal/abi.NoEscape"], unfollowed := true, recurses := true, loops := true, apart := false, narrowed := true }
def TermInstancesUptoSaid : Prop := termInstancesUptoRow.holds Try.pinned (OpenSpec.upto termInstancesSpec)

/-- 'riparianlaw01.TermNormal', WHERE WHAT IT READS IS OF BULK AT MOST 1048576: true; the input reads as it did. -/
def termNormalUptoRow : OpenClaim := { program := "ytfhgknmkpegpbaa", sum := "9538cc191165fc310666f6f312800d207a77461a0ad1c7a6b24bfbef821cea55", func := "riparian/riparianlaw01.TermNormal", spec := "termNormal", inPlace := ["internal/abi.NoEscape"], unfollowed := true, recurses := true, loops := true, apart := false, narrowed := true }
def TermNormalUptoSaid : Prop := termNormalUptoRow.holds Try.pinned (OpenSpec.upto termNormalSpec)

/-- 'riparianlaw01.TermGround', WHERE WHAT IT READS IS OF BULK AT MOST 1048576: true; the input reads as it did. -/
def termGroundUptoRow : OpenClaim := { program := "ytfhgknmkpegpbaa", sum := "9538cc191165fc310666f6f312800d207a77461a0ad1c7a6b24bfbef821cea55", func := "riparian/riparianlaw01.TermGround", spec := "termGround", inPlace := ["internal/abi.NoEscape"], unfollowed := true, recurses := true, loops := true, apart := false, narrowed := true }
def TermGroundUptoSaid : Prop := termGroundUptoRow.holds Try.pinned (OpenSpec.upto termGroundSpec)

/-- 'riparianlaw01.TermComposed', WHERE WHAT IT READS IS OF BULK AT MOST 1048576: true; the input reads as it did. -/
def termComposedUptoRow : OpenClaim := { program := "ytfhgknmkpegpbaa", sum := "9538cc191165fc310666f6f312800d207a77461a0ad1c7a6b24bfbef821cea55", func := "riparian/riparianlaw01.TermComposed", spec := "termComposed", inPlace := ["internal/abi.NoEscape"], unfollowed := true, recurses := true, loops := true, apart := false, narrowed := true }
def TermComposedUptoSaid : Prop := termComposedUptoRow.holds Try.pinned (OpenSpec.upto termComposedSpec)

/-- 'riparianlaw01.TermSubsts', WHERE WHAT IT READS IS OF BULK AT MOST 1048576: true; the input reads as it did. -/
def termSubstsUptoRow : OpenClaim := { program := "ytfhgknmkpegpbaa", sum := "9538cc191165fc310666f6f312800d207a77461a0ad1c7a6b24bfbef821cea55", func := "riparian/riparianlaw01.TermSubsts", spec := "termSubsts", inPlace := ["internal/abi.NoEscape"], unfollowed := true, recurses := true, loops := true, apart := false, narrowed := true }
def TermSubstsUptoSaid : Prop := termSubstsUptoRow.holds Try.pinned (OpenSpec.upto termSubstsSpec)

/-- 'riparianlaw01.TermLists', WHERE WHAT IT READS IS OF BULK AT MOST 1048576: true; the input reads as it did. -/
def termListsUptoRow : OpenClaim := { program := "ytfhgknmkpegpbaa", sum := "9538cc191165fc310666f6f312800d207a77461a0ad1c7a6b24bfbef821cea55", func := "riparian/riparianlaw01.TermLists", spec := "termLists", inPlace := ["internal/abi.NoEscape"], unfollowed := true, recurses := true, loops := true, apart := false, narrowed := true }
def TermListsUptoSaid : Prop := termListsUptoRow.holds Try.pinned (OpenSpec.upto termListsSpec)

/-- 'riparianlaw01.TermItems', WHERE WHAT IT READS IS OF BULK AT MOST 1048576: true; the input reads as it did. -/
def termItemsUptoRow : OpenClaim := { program := "ytfhgknmkpegpbaa", sum := "9538cc191165fc310666f6f312800d207a77461a0ad1c7a6b24bfbef821cea55", func := "riparian/riparianlaw01.TermItems", spec := "termItems", inPlace := ["internal/abi.NoEscape"], unfollowed := true, recurses := true, loops := true, apart := false, narrowed := true }
def TermItemsUptoSaid : Prop := termItemsUptoRow.holds Try.pinned (OpenSpec.upto termItemsSpec)

/-- 'riparianlaw01.TermPlaces', WHERE WHAT IT READS IS OF BULK AT MOST 1048576: true; the input reads as it did. -/
def termPlacesUptoRow : OpenClaim := { program := "ytfhgknmkpegpbaa", sum := "9538cc191165fc310666f6f312800d207a77461a0ad1c7a6b24bfbef821cea55", func := "riparian/riparianlaw01.TermPlaces", spec := "termPlaces", inPlace := ["internal/abi.NoEscape"], unfollowed := true, recurses := true, loops := true, apart := false, narrowed := true }
def TermPlacesUptoSaid : Prop := termPlacesUptoRow.holds Try.pinned (OpenSpec.upto termPlacesSpec)

/-- 'riparianlaw01.TermEdits', WHERE WHAT IT READS IS OF BULK AT MOST 1048576: true; the input reads as it did. -/
def termEditsUptoRow : OpenClaim := { program := "ytfhgknmkpegpbaa", sum := "9538cc191165fc310666f6f312800d207a77461a0ad1c7a6b24bfbef821cea55", func := "riparian/riparianlaw01.TermEdits", spec := "termEdits", inPlace := ["internal/abi.NoEscape"], unfollowed := true, recurses := true, loops := true, apart := false, narrowed := true }
def TermEditsUptoSaid : Prop := termEditsUptoRow.holds Try.pinned (OpenSpec.upto termEditsSpec)

end Rows
end Go.Proofs.Ytfhgknmkpegpbaa
