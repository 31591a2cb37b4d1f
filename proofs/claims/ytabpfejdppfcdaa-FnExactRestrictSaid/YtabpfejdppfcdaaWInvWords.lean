-- The kit's printed words, of which this session's own program (wip/prune.py) has left out what this claim does not name.
import Derived.Test.YtabpfejdppfcdaaWInv
import Derived.Test.YtabpfejdppfcdaaWFootNe
namespace Go.Proofs.YtabpfejdppfcdaaW.PrintWords
open Go.RowKit
end Go.Proofs.YtabpfejdppfcdaaW.PrintWords
namespace Go.Proofs.YtabpfejdppfcdaaW.PrintLast
section
variable {ops : Array Oper} {a : Act} {o og : Oper} {g : Nat} {t : Tmp} {u : Bool}
end
end Go.Proofs.YtabpfejdppfcdaaW.PrintLast
