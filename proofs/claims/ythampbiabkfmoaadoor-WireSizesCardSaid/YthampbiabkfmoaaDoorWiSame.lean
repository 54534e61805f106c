/- SameRequest: what it answers. -/
import Derived.Test.YthampbiabkfmoaaDoorWiRdRp
namespace Go.Proofs.YthampbiabkfmoaaDoor
open Go.RowKit Go.Tap
set_option linter.unusedVariables false
set_option linter.unusedSimpArgs false
end Go.Proofs.YthampbiabkfmoaaDoor
