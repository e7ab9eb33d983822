import Derived.Test.YthdlmnkefheliaaD28
set_option linter.unusedVariables false
set_option linter.unusedSimpArgs false
namespace Go.Proofs.Ythdlmnkefheliaa
open Go.RowKit
/-- Forget how a world came to be, and keep what is said of it. -/
theorem calls_at {P : Program} {f : FuncId} {args : Array Value} {w : World} {R : Ending → World → Prop} (I : World → Prop) (hw : I w) (h : ∀ W, I W → Calls P f args W R) : Calls P f args w R := h w hw
theorem wp_at {P : Program} {c : Code} {Q : Exit → Act → World → Prop} {a : Act} {w : World} (I : World → Prop) (hw : I w) (h : ∀ W, I W → Code.wp P c Q a W) : Code.wp P c Q a w := h w hw
end Go.Proofs.Ythdlmnkefheliaa
