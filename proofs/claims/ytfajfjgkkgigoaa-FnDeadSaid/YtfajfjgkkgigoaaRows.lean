/-
  No cell of these rows narrows 'for every input' (looked for: loops, veiled, ifaces, maps, wideKeys, modest, calm, conditions, laid).
  DERIVED. THE GIVEN ROWS OF THIS SEAT. 6 by the template 'for every input the law returns true; each argument reads behind the call as it read before'; 0 by the template 'total and deterministic' (their statements: YtfajfjgkkgigoaaTotals.lean).
  GIVEN WITH THE SEED: the statements are not yours to turn. If you find one false, say at which input.
  Laid BY PROGRAM, IN A SANDBOX (cutbox-rows.mjs): the forced cells as the released guide's own fill.sh prints them over the translation 6a359701d1e83771… (all of the seat's roots in one cut). By AI agents, Wed Nov 11 2026. No macro, syntax, notation, axiom, sorry.
-/
import Derived.Test.YtfajfjgkkgigoaaChecked
import GoSem.Claim
import GoSem.ClaimJoined
import GoSem.ClaimMapViews
import Derived.JoinedTies
import Derived.KernelRfl
namespace Go.Proofs.Ytfajfjgkkgigoaa
/- THE CELL 'sum', in the pinned program and in every row, IS THE sha256 OF THE DUMP (.gsa) THAT YtfajfjgkkgigoaaProg.lean LOADS. Nothing in Lean hashes anything: it is a label: what it is worth is what the hold of that sum in a sandbox is worth. -/
noncomputable def Try.pinned : Pinned := { name := "ytfajfjgkkgigoaa", sum := "6a359701d1e8377128ab9d003a4727774e3d4072b75b9706466e7e475ba73710", checked := Try.checked }
namespace Rows
def none {H : Type} : Left H := { results := [], args := [] }

/-- 'laws.FnExactBuildDfa': WHATEVER THE INPUT: true; the input reads as it did. -/
def fnExactBuildDfaSpec : ChangeSpec := { name := "fnExactBuildDfa", fn := fun _ => fun
  | [d1, d2] => { results := [.lit (.bool true)], args := [d1, d2] }
  | _ => none }
def fnExactBuildDfaRow : OpenClaim := { program := "ytfajfjgkkgigoaa", sum := "6a359701d1e8377128ab9d003a4727774e3d4072b75b9706466e7e475ba73710", func := "loop.example/g00132/laws.FnExactBuildDfa", spec := "fnExactBuildDfa", unfollowed := true, recurses := true, plainKeys := false, apart := false }
def FnExactBuildDfaSaid : Prop := fnExactBuildDfaRow.holds Try.pinned (OpenSpec.ofChange fnExactBuildDfaSpec)

/-- ITS FALSE NEIGHBOUR: 'it returns false'. Refute it at one input. -/
def fnExactBuildDfaWrong : ChangeSpec := { name := "fnExactBuildDfa", fn := fun _ => fun
  | [d1, d2] => { results := [.lit (.bool false)], args := [d1, d2] }
  | _ => none }
def FnExactBuildDfaWrongFalsely : Prop := fnExactBuildDfaRow.holds Try.pinned (OpenSpec.ofChange fnExactBuildDfaWrong)

/-- 'laws.FnClosed': WHATEVER THE INPUT: true; the input reads as it did. -/
def fnClosedSpec : ChangeSpec := { name := "fnClosed", fn := fun _ => fun
  | [d] => { results := [.lit (.bool true)], args := [d] }
  | _ => none }
def fnClosedRow : OpenClaim := { program := "ytfajfjgkkgigoaa", sum := "6a359701d1e8377128ab9d003a4727774e3d4072b75b9706466e7e475ba73710", func := "loop.example/g00132/laws.FnClosed", spec := "fnClosed", unfollowed := true, recurses := true, plainKeys := false, apart := false }
def FnClosedSaid : Prop := fnClosedRow.holds Try.pinned (OpenSpec.ofChange fnClosedSpec)

/-- ITS FALSE NEIGHBOUR: 'it returns false'. Refute it at one input. -/
def fnClosedWrong : ChangeSpec := { name := "fnClosed", fn := fun _ => fun
  | [d] => { results := [.lit (.bool false)], args := [d] }
  | _ => none }
def FnClosedWrongFalsely : Prop := fnClosedRow.holds Try.pinned (OpenSpec.ofChange fnClosedWrong)

/-- 'laws.FnDead': WHATEVER THE INPUT: true; the input reads as it did. -/
def fnDeadSpec : ChangeSpec := { name := "fnDead", fn := fun _ => fun
  | [d] => { results := [.lit (.bool true)], args := [d] }
  | _ => none }
def fnDeadRow : OpenClaim := { program := "ytfajfjgkkgigoaa", sum := "6a359701d1e8377128ab9d003a4727774e3d4072b75b9706466e7e475ba73710", func := "loop.example/g00132/laws.FnDead", spec := "fnDead", unfollowed := true, recurses := true, plainKeys := false, apart := false }
def FnDeadSaid : Prop := fnDeadRow.holds Try.pinned (OpenSpec.ofChange fnDeadSpec)

/-- ITS FALSE NEIGHBOUR: 'it returns false'. Refute it at one input. -/
def fnDeadWrong : ChangeSpec := { name := "fnDead", fn := fun _ => fun
  | [d] => { results := [.lit (.bool false)], args := [d] }
  | _ => none }
def FnDeadWrongFalsely : Prop := fnDeadRow.holds Try.pinned (OpenSpec.ofChange fnDeadWrong)

/-- 'laws.FnUnlike': WHATEVER THE INPUT: true; the input reads as it did. -/
def fnUnlikeSpec : ChangeSpec := { name := "fnUnlike", fn := fun _ => fun
  | [d] => { results := [.lit (.bool true)], args := [d] }
  | _ => none }
def fnUnlikeRow : OpenClaim := { program := "ytfajfjgkkgigoaa", sum := "6a359701d1e8377128ab9d003a4727774e3d4072b75b9706466e7e475ba73710", func := "loop.example/g00132/laws.FnUnlike", spec := "fnUnlike", unfollowed := true, recurses := true, plainKeys := false, apart := false }
def FnUnlikeSaid : Prop := fnUnlikeRow.holds Try.pinned (OpenSpec.ofChange fnUnlikeSpec)

/-- ITS FALSE NEIGHBOUR: 'it returns false'. Refute it at one input. -/
def fnUnlikeWrong : ChangeSpec := { name := "fnUnlike", fn := fun _ => fun
  | [d] => { results := [.lit (.bool false)], args := [d] }
  | _ => none }
def FnUnlikeWrongFalsely : Prop := fnUnlikeRow.holds Try.pinned (OpenSpec.ofChange fnUnlikeWrong)

/-- 'laws.FnPacked': WHATEVER THE INPUT: true; the input reads as it did. -/
def fnPackedSpec : ChangeSpec := { name := "fnPacked", fn := fun _ => fun
  | [d1, d2] => { results := [.lit (.bool true)], args := [d1, d2] }
  | _ => none }
def fnPackedRow : OpenClaim := { program := "ytfajfjgkkgigoaa", sum := "6a359701d1e8377128ab9d003a4727774e3d4072b75b9706466e7e475ba73710", func := "loop.example/g00132/laws.FnPacked", spec := "fnPacked", unfollowed := true, recurses := true, plainKeys := false, apart := false }
def FnPackedSaid : Prop := fnPackedRow.holds Try.pinned (OpenSpec.ofChange fnPackedSpec)

/-- ITS FALSE NEIGHBOUR: 'it returns false'. Refute it at one input. -/
def fnPackedWrong : ChangeSpec := { name := "fnPacked", fn := fun _ => fun
  | [d1, d2] => { results := [.lit (.bool false)], args := [d1, d2] }
  | _ => none }
def FnPackedWrongFalsely : Prop := fnPackedRow.holds Try.pinned (OpenSpec.ofChange fnPackedWrong)

/-- 'laws.FnCoded': WHATEVER THE INPUT: true; the input reads as it did. -/
def fnCodedSpec : ChangeSpec := { name := "fnCoded", fn := fun _ => fun
  | [d1, d2] => { results := [.lit (.bool true)], args := [d1, d2] }
  | _ => none }
def fnCodedRow : OpenClaim := { program := "ytfajfjgkkgigoaa", sum := "6a359701d1e8377128ab9d003a4727774e3d4072b75b9706466e7e475ba73710", func := "loop.example/g00132/laws.FnCoded", spec := "fnCoded", unfollowed := true, recurses := true, plainKeys := false, apart := false }
def FnCodedSaid : Prop := fnCodedRow.holds Try.pinned (OpenSpec.ofChange fnCodedSpec)

/-- ITS FALSE NEIGHBOUR: 'it returns false'. Refute it at one input. -/
def fnCodedWrong : ChangeSpec := { name := "fnCoded", fn := fun _ => fun
  | [d1, d2] => { results := [.lit (.bool false)], args := [d1, d2] }
  | _ => none }
def FnCodedWrongFalsely : Prop := fnCodedRow.holds Try.pinned (OpenSpec.ofChange fnCodedWrong)

/- THE SECOND FORM. 'bulk': how many values and letters a reading holds, each counted each time it is reached (what is shared counts as often as it is met; a slice's spare places count too). A statement '..UptoSaid' is the law's where the arguments, and the package variables that the reading takes, are together of bulk at most 1048576: NARROWER than '..Said'. Prove '..Said' where nothing that the law and all that it calls make is longer than what came in: it says more and counts as full. Else prove '..UptoSaid'. A law counts once. -/
mutual
def uptoBulk {H : Type} : DataW H → Nat
  | .lit (.string bytes) => bytes.length + 1
  | .lit _ => 1
  | .nil => 1
  | .ptr d => uptoBulk d + 1
  | .slice elems spare => uptoBulkAll elems + uptoBulkAll spare + 1
  | .agg parts => uptoBulkAll parts + 1
  | .iface _ d => uptoBulk d + 1
  | .map entries => uptoBulkEntries entries + 1
  | .held _ => 1
def uptoBulkAll {H : Type} : List (DataW H) → Nat
  | [] => 0
  | d :: r => uptoBulk d + uptoBulkAll r
def uptoBulkEntries {H : Type} : List (Lit × DataW H) → Nat
  | [] => 0
  | x :: r => uptoBulkEntry x + uptoBulkEntries r
def uptoBulkEntry {H : Type} : Lit × DataW H → Nat
  | (.string bytes, d) => bytes.length + uptoBulk d + 1
  | (_, d) => uptoBulk d + 1
 end
def uptoSmall : (H : Type) → List (DataW H) → Bool := fun _ ds => decide (uptoBulkAll ds ≤ 1048576)
def OpenSpec.upto (s : _root_.Go.ChangeSpec) : _root_.Go.OpenSpec := { _root_.Go.OpenSpec.ofChange s with cond := some uptoSmall }

/-- 'laws.FnExactBuildDfa', WHERE WHAT IT READS IS OF BULK AT MOST 1048576: true; the input reads as it did. -/
def fnExactBuildDfaUptoRow : OpenClaim := { program := "ytfajfjgkkgigoaa", sum := "6a359701d1e8377128ab9d003a4727774e3d4072b75b9706466e7e475ba73710", func := "loop.example/g00132/laws.FnExactBuildDfa", spec := "fnExactBuildDfa", unfollowed := true, recurses := true, plainKeys := false, apart := false, narrowed := true }
def FnExactBuildDfaUptoSaid : Prop := fnExactBuildDfaUptoRow.holds Try.pinned (OpenSpec.upto fnExactBuildDfaSpec)

/-- 'laws.FnClosed', WHERE WHAT IT READS IS OF BULK AT MOST 1048576: true; the input reads as it did. -/
def fnClosedUptoRow : OpenClaim := { program := "ytfajfjgkkgigoaa", sum := "6a359701d1e8377128ab9d003a4727774e3d4072b75b9706466e7e475ba73710", func := "loop.example/g00132/laws.FnClosed", spec := "fnClosed", unfollowed := true, recurses := true, plainKeys := false, apart := false, narrowed := true }
def FnClosedUptoSaid : Prop := fnClosedUptoRow.holds Try.pinned (OpenSpec.upto fnClosedSpec)

/-- 'laws.FnDead', WHERE WHAT IT READS IS OF BULK AT MOST 1048576: true; the input reads as it did. -/
def fnDeadUptoRow : OpenClaim := { program := "ytfajfjgkkgigoaa", sum := "6a359701d1e8377128ab9d003a4727774e3d4072b75b9706466e7e475ba73710", func := "loop.example/g00132/laws.FnDead", spec := "fnDead", unfollowed := true, recurses := true, plainKeys := false, apart := false, narrowed := true }
def FnDeadUptoSaid : Prop := fnDeadUptoRow.holds Try.pinned (OpenSpec.upto fnDeadSpec)

/-- 'laws.FnUnlike', WHERE WHAT IT READS IS OF BULK AT MOST 1048576: true; the input reads as it did. -/
def fnUnlikeUptoRow : OpenClaim := { program := "ytfajfjgkkgigoaa", sum := "6a359701d1e8377128ab9d003a4727774e3d4072b75b9706466e7e475ba73710", func := "loop.example/g00132/laws.FnUnlike", spec := "fnUnlike", unfollowed := true, recurses := true, plainKeys := false, apart := false, narrowed := true }
def FnUnlikeUptoSaid : Prop := fnUnlikeUptoRow.holds Try.pinned (OpenSpec.upto fnUnlikeSpec)

/-- 'laws.FnPacked', WHERE WHAT IT READS IS OF BULK AT MOST 1048576: true; the input reads as it did. -/
def fnPackedUptoRow : OpenClaim := { program := "ytfajfjgkkgigoaa", sum := "6a359701d1e8377128ab9d003a4727774e3d4072b75b9706466e7e475ba73710", func := "loop.example/g00132/laws.FnPacked", spec := "fnPacked", unfollowed := true, recurses := true, plainKeys := false, apart := false, narrowed := true }
def FnPackedUptoSaid : Prop := fnPackedUptoRow.holds Try.pinned (OpenSpec.upto fnPackedSpec)

/-- 'laws.FnCoded', WHERE WHAT IT READS IS OF BULK AT MOST 1048576: true; the input reads as it did. -/
def fnCodedUptoRow : OpenClaim := { program := "ytfajfjgkkgigoaa", sum := "6a359701d1e8377128ab9d003a4727774e3d4072b75b9706466e7e475ba73710", func := "loop.example/g00132/laws.FnCoded", spec := "fnCoded", unfollowed := true, recurses := true, plainKeys := false, apart := false, narrowed := true }
def FnCodedUptoSaid : Prop := fnCodedUptoRow.holds Try.pinned (OpenSpec.upto fnCodedSpec)

end Rows
end Go.Proofs.Ytfajfjgkkgigoaa
