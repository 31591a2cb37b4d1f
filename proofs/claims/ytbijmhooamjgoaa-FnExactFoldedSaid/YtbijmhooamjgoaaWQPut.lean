-- The kit's printed words, of which this session's own program (wip/prune.py) has left out what this claim does not name.
import Derived.Test.YtbijmhooamjgoaaWWords
import Derived.Test.YtbijmhooamjgoaaWLast
namespace Go.Proofs.YtbijmhooamjgoaaW.PrintWords
open Go.RowKit
namespace Kd
section
variable {α : Type} {d : Kd α} {e base g o n cap : Nat} {ok okp : Nat → Prop} {w W : World} {v : Value} {xs : List α}
end
section
variable {α : Type} {enc : α → Value} {h1 : ∀ x, (enc x).oneCell' = true} {e base g o n cap : Nat} {ok : Nat → Prop} {W : World} {xs : List α}
end
end Kd
end Go.Proofs.YtbijmhooamjgoaaW.PrintWords
