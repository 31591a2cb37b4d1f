-- The kit's printed words, of which this session's own program (wip/prune.py) has left out what this claim does not name.
import Derived.Test.YtfajfjgkkgigoaaWN
namespace Go.Proofs.YtfajfjgkkgigoaaW.PrintWords
open Go.RowKit
namespace Kd
section
variable {α : Type} {d : Kd α} {W : World} {g n : Nat} {S ok : Nat → Prop} {A : Option Addr} {ad : Addr} {xs : List α}
end
end Kd
end Go.Proofs.YtfajfjgkkgigoaaW.PrintWords
