-- The kit's printed words, of which this session's own program (wip/prune.py) has left out what this claim does not name.
import Derived.Test.YtaemhmgcjpcicaaWWords
import Derived.Laws.StructEq
namespace Go.Proofs.YtaemhmgcjpcicaaW.PrintWords
open Go.RowKit
section
variable {P : Program} {d : Nat} {xs ys : Array Value} {f : Field} {fs : List Field} {a b : Value} {r s : Bool} {w : World}
end
end Go.Proofs.YtaemhmgcjpcicaaW.PrintWords
