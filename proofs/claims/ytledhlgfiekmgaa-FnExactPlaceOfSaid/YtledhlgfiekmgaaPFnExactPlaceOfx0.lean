-- Written by this session's own program (wip/pr.py) over the kit's printer; contracts that the printer does not know are given by hand.
import Derived.Test.YtledhlgfiekmgaaProg
import Derived.Below
import Derived.Deep.Draws
import Derived.Deep.AppendLies
import Derived.Maps.AppendAt
import Derived.OwnWalk
import Derived.Laws.BytesArg
import Derived.Laws.MakeOwn
import Derived.Laws.OwnMore
import Derived.Deep.OwnRows
import Derived.Tactics
import Derived.Lib.ConvBytes
import Derived.Laws.Slices
import Derived.WalkKit
import Derived.KernelRfl
import Derived.RowKit3
import Derived.Deep.LoopGhost
import Derived.Deep.QuietTactic
import Derived.BigQuiet
import Derived.WideLaws
import Derived.Deep.DeepCutAuto
import Derived.Deep.CutBlock
import Derived.Deep.RegionHeld3
import Derived.Laws.Rows
import Derived.Lib.AppendStr
import Derived.ArgAppend
import Derived.Laws.IdiomCopy
import Derived.OrdersHeld
import Derived.Laws.BitsLemmas
import Derived.RowKit
import Derived.Shelf.Lay
import Derived.Shelf.Strings.Count
import Derived.Shelf.Strings.LastIndexAll
import Derived.Test.YtledhlgfiekmgaaWWords
import Derived.Test.YtledhlgfiekmgaaWLast
import Derived.Test.YtledhlgfiekmgaaWTab
import Derived.Test.YtledhlgfiekmgaaWFour
import Derived.Test.YtledhlgfiekmgaaWQPut
import Derived.Test.YtledhlgfiekmgaaWApart
import Derived.Test.YtledhlgfiekmgaaWArr
import Derived.Test.YtledhlgfiekmgaaWZeros
import Derived.Test.YtledhlgfiekmgaaWFoot
import Derived.Test.YtledhlgfiekmgaaWKept
import Derived.Test.YtledhlgfiekmgaaWShare
import Derived.Test.YtledhlgfiekmgaaWN
import Derived.Test.YtledhlgfiekmgaaWFootNe
import Derived.Test.YtledhlgfiekmgaaWAt
import Derived.Test.YtledhlgfiekmgaaWEqStruct
import Derived.Test.YtledhlgfiekmgaaWRepsOne
import Derived.Test.YtledhlgfiekmgaaWInv
import Derived.Test.YtledhlgfiekmgaaWInvWords
import Derived.Test.YtledhlgfiekmgaaWGuard
import Derived.Test.YtledhlgfiekmgaaWNEv
import Derived.Test.YtledhlgfiekmgaaWMore
namespace Go.Proofs.Ytledhlgfiekmgaa.PFnExactPlaceOf
open Go.RowKit Go.Proofs.YtledhlgfiekmgaaW.PrintWords Go.Proofs.YtledhlgfiekmgaaW.PrintLast Go.Proofs.YtledhlgfiekmgaaW.PrintMore
attribute [local go_sem] max2_int min2_int max_two min_two max_three min_three max_four min_four   -- for this text's walks alone
set_option linter.unusedVariables false
set_option linter.unusedSimpArgs false



def errW : Option Int → Value
  | none => .nilIface
  | some c => .iface 0 (.int .i64 c)
theorem errW_none : errW none = .nilIface := rfl
theorem errW_some (c : Int) : errW (some c) = .iface 0 (.int .i64 c) := rfl

-- the values' own types

end Go.Proofs.Ytledhlgfiekmgaa.PFnExactPlaceOf
