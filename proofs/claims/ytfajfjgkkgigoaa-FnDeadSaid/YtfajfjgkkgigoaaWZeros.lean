-- The kit's printed words, of which this session's own program (wip/prune.py) has left out what this claim does not name.
import Derived.Test.YtfajfjgkkgigoaaWApart
import Derived.Test.YtfajfjgkkgigoaaWArr
namespace Go.Proofs.YtfajfjgkkgigoaaW.PrintWords
open Go.RowKit
section
variable {P : Program}
end
namespace Kd
section
variable {P : Program} {ops : Array Oper} {rest : List Oper} {o : Oper} {a : Act} {Q : Exit → Act → World → Prop} {Kc : Act → World → Prop} {α : Type}
end
section
variable {α : Type} {d : Kd α} {e : Nat} {w : World} {base : Nat} {ok : Nat → Prop} {v : Value} {xs : List α}
end
section
variable {P : Program} {ops : Array Oper} {rest : List Oper} {o : Oper} {a : Act} {Q : Exit → Act → World → Prop} {Kc : Act → World → Prop} {α : Type}
end
end Kd
end Go.Proofs.YtfajfjgkkgigoaaW.PrintWords
