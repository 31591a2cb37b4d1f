-- The kit's printed words, of which this session's own program (wip/prune.py) has left out what this claim does not name.
import Derived.Test.YtaemhmgcjpcicaaWInv
import Derived.Test.YtaemhmgcjpcicaaWFootNe
namespace Go.Proofs.YtaemhmgcjpcicaaW.PrintWords
open Go.RowKit
end Go.Proofs.YtaemhmgcjpcicaaW.PrintWords
namespace Go.Proofs.YtaemhmgcjpcicaaW.PrintLast
section
variable {ops : Array Oper} {a : Act} {o og : Oper} {g : Nat} {t : Tmp} {u : Bool}
end
end Go.Proofs.YtaemhmgcjpcicaaW.PrintLast
