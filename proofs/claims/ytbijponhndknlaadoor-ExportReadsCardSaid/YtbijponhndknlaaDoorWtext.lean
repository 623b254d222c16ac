/- Layer 3 (text), and the document's: walks. -/
import Derived.Test.YtbijponhndknlaaDoorTy
import Derived.Test.YtbijponhndknlaaDoorX1
set_option linter.unusedSimpArgs false
set_option linter.unusedVariables false
set_option maxRecDepth 20000
namespace Go.Proofs.YtbijponhndknlaaDoor
open Go.Sp
attribute [local irreducible] Go.Sp.Pr Go.Sp.Ws Go.Sp.Wl Go.Sp.Wq Go.Sp.Rds Go.Sp.Src





abbrev vcut (x : List UInt8 × List UInt8 × Bool) : Value := .tuple #[st x.1, st x.2.1, .bool x.2.2]




end Go.Proofs.YtbijponhndknlaaDoor
