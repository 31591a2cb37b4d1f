-- Written by this session's own program (wip/pr.py) over the kit's printer; contracts that the printer does not know are given by hand.
import Derived.Test.YtnmlkaoaandemaaProg
import Derived.Below
import Derived.Deep.Draws
import Derived.Deep.AppendLies
import Derived.Maps.AppendAt
import Derived.OwnWalk
import Derived.Laws.BytesArg
import Derived.Laws.MakeOwn
import Derived.Laws.OwnMore
import Derived.Deep.OwnRows
import Derived.Tactics
import Derived.Lib.ConvBytes
import Derived.Laws.Slices
import Derived.WalkKit
import Derived.KernelRfl
import Derived.RowKit3
import Derived.Deep.LoopGhost
import Derived.Deep.QuietTactic
import Derived.BigQuiet
import Derived.WideLaws
import Derived.Deep.DeepCutAuto
import Derived.Deep.CutBlock
import Derived.Deep.RegionHeld3
import Derived.Laws.Rows
import Derived.Lib.AppendStr
import Derived.ArgAppend
import Derived.Laws.IdiomCopy
import Derived.OrdersHeld
import Derived.Laws.BitsLemmas
import Derived.RowKit
import Derived.Test.YtnmlkaoaandemaaKit
import Derived.Test.YtnmlkaoaandemaaKitClass
import Derived.Test.YtnmlkaoaandemaaKitLines
import Derived.Test.YtnmlkaoaandemaaKitOpen
import Derived.Test.YtnmlkaoaandemaaKitUtf
import Derived.Test.YtnmlkaoaandemaaWWords
import Derived.Test.YtnmlkaoaandemaaWLast
import Derived.Test.YtnmlkaoaandemaaWTab
import Derived.Test.YtnmlkaoaandemaaWFour
import Derived.Test.YtnmlkaoaandemaaWQPut
import Derived.Test.YtnmlkaoaandemaaWApart
import Derived.Test.YtnmlkaoaandemaaWArr
import Derived.Test.YtnmlkaoaandemaaWZeros
import Derived.Test.YtnmlkaoaandemaaWFoot
import Derived.Test.YtnmlkaoaandemaaWKept
import Derived.Test.YtnmlkaoaandemaaWShare
import Derived.Test.YtnmlkaoaandemaaWN
import Derived.Test.YtnmlkaoaandemaaWFootNe
import Derived.Test.YtnmlkaoaandemaaWAt
import Derived.Test.YtnmlkaoaandemaaWEqStruct
import Derived.Test.YtnmlkaoaandemaaWRepsOne
import Derived.Test.YtnmlkaoaandemaaWInv
import Derived.Test.YtnmlkaoaandemaaWInvWords
import Derived.Test.YtnmlkaoaandemaaWGuard
import Derived.Test.YtnmlkaoaandemaaWNEv
import Derived.Test.YtnmlkaoaandemaaWMore
namespace Go.Proofs.Ytnmlkaoaandemaa.PFnExactOffsetOf
open Go.RowKit Go.Proofs.YtnmlkaoaandemaaW.PrintWords Go.Proofs.YtnmlkaoaandemaaW.PrintLast Go.Proofs.YtnmlkaoaandemaaW.PrintMore
attribute [local go_sem] max2_int min2_int max_two min_two max_three min_three max_four min_four   -- for this text's walks alone
set_option linter.unusedVariables false
set_option linter.unusedSimpArgs false



def errW : Option Int → Value
  | none => .nilIface
  | some c => .iface 0 (.int .i64 c)
theorem errW_none : errW none = .nilIface := rfl
theorem errW_some (c : Int) : errW (some c) = .iface 0 (.int .i64 c) := rfl

theorem info2 : (Try.prog.info? 2).map (fun i => (i.zero, i.size, i.bytes)) = some (some (.int .i64 0), 1, 8) := by kernel_rfl
-- the values' own types

end Go.Proofs.Ytnmlkaoaandemaa.PFnExactOffsetOf
