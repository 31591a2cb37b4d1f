/-
  No cell of these rows narrows 'for every input' (looked for: loops, veiled, ifaces, maps, wideKeys, modest, calm, conditions, laid).
  DERIVED. THE GIVEN ROWS OF THIS SEAT. 11 by the template 'for every input the law returns true; each argument reads behind the call as it read before'; 0 by the template 'total and deterministic' (their statements: YtlfhnlghfgjooaaTotals.lean).
  GIVEN WITH THE SEED: the statements are not yours to turn. If you find one false, say at which input.
  Laid BY PROGRAM, IN A SANDBOX (cutbox-rows.mjs): the forced cells as the released guide's own fill.sh prints them over the translation bf3ec8c7054bad96… (all of the seat's roots in one cut). By AI agents, Wed Nov 11 2026. No macro, syntax, notation, axiom, sorry.
-/
import Derived.Test.YtlfhnlghfgjooaaChecked
import GoSem.Claim
import GoSem.ClaimJoined
import GoSem.ClaimMapViews
import Derived.JoinedTies
import Derived.KernelRfl
namespace Go.Proofs.Ytlfhnlghfgjooaa
/- THE CELL 'sum', in the pinned program and in every row, IS THE sha256 OF THE DUMP (.gsa) THAT YtlfhnlghfgjooaaProg.lean LOADS. Nothing in Lean hashes anything: it is a label: what it is worth is what the hold of that sum in a sandbox is worth. -/
noncomputable def Try.pinned : Pinned := { name := "ytlfhnlghfgjooaa", sum := "bf3ec8c7054bad960cbe5df6dd86ccff357d7ede4ca75146aa87a4f36861ba5a", checked := Try.checked }
namespace Rows
def none {H : Type} : Left H := { results := [], args := [] }

/-- 'laws.FnExactKeywordsOk': WHATEVER THE INPUT: true; the input reads as it did. -/
def fnExactKeywordsOkSpec : ChangeSpec := { name := "fnExactKeywordsOk", fn := fun _ => fun
  | [d] => { results := [.lit (.bool true)], args := [d] }
  | _ => none }
def fnExactKeywordsOkRow : OpenClaim := { program := "ytlfhnlghfgjooaa", sum := "bf3ec8c7054bad960cbe5df6dd86ccff357d7ede4ca75146aa87a4f36861ba5a", func := "loop.example/g00132/laws.FnExactKeywordsOk", spec := "fnExactKeywordsOk", apart := false }
def FnExactKeywordsOkSaid : Prop := fnExactKeywordsOkRow.holds Try.pinned (OpenSpec.ofChange fnExactKeywordsOkSpec)

/-- ITS FALSE NEIGHBOUR: 'it returns false'. Refute it at one input. -/
def fnExactKeywordsOkWrong : ChangeSpec := { name := "fnExactKeywordsOk", fn := fun _ => fun
  | [d] => { results := [.lit (.bool false)], args := [d] }
  | _ => none }
def FnExactKeywordsOkWrongFalsely : Prop := fnExactKeywordsOkRow.holds Try.pinned (OpenSpec.ofChange fnExactKeywordsOkWrong)

/-- 'laws.FnExactLetterAt': WHATEVER THE INPUT: true; the input reads as it did. -/
def fnExactLetterAtSpec : ChangeSpec := { name := "fnExactLetterAt", fn := fun _ => fun
  | [d1, d2] => { results := [.lit (.bool true)], args := [d1, d2] }
  | _ => none }
def fnExactLetterAtRow : OpenClaim := { program := "ytlfhnlghfgjooaa", sum := "bf3ec8c7054bad960cbe5df6dd86ccff357d7ede4ca75146aa87a4f36861ba5a", func := "loop.example/g00132/laws.FnExactLetterAt", spec := "fnExactLetterAt", apart := false }
def FnExactLetterAtSaid : Prop := fnExactLetterAtRow.holds Try.pinned (OpenSpec.ofChange fnExactLetterAtSpec)

/-- ITS FALSE NEIGHBOUR: 'it returns false'. Refute it at one input. -/
def fnExactLetterAtWrong : ChangeSpec := { name := "fnExactLetterAt", fn := fun _ => fun
  | [d1, d2] => { results := [.lit (.bool false)], args := [d1, d2] }
  | _ => none }
def FnExactLetterAtWrongFalsely : Prop := fnExactLetterAtRow.holds Try.pinned (OpenSpec.ofChange fnExactLetterAtWrong)

/-- 'laws.FnExactKeywordAt': WHATEVER THE INPUT: true; the input reads as it did. -/
def fnExactKeywordAtSpec : ChangeSpec := { name := "fnExactKeywordAt", fn := fun _ => fun
  | [d1, d2] => { results := [.lit (.bool true)], args := [d1, d2] }
  | _ => none }
def fnExactKeywordAtRow : OpenClaim := { program := "ytlfhnlghfgjooaa", sum := "bf3ec8c7054bad960cbe5df6dd86ccff357d7ede4ca75146aa87a4f36861ba5a", func := "loop.example/g00132/laws.FnExactKeywordAt", spec := "fnExactKeywordAt", apart := false }
def FnExactKeywordAtSaid : Prop := fnExactKeywordAtRow.holds Try.pinned (OpenSpec.ofChange fnExactKeywordAtSpec)

/-- ITS FALSE NEIGHBOUR: 'it returns false'. Refute it at one input. -/
def fnExactKeywordAtWrong : ChangeSpec := { name := "fnExactKeywordAt", fn := fun _ => fun
  | [d1, d2] => { results := [.lit (.bool false)], args := [d1, d2] }
  | _ => none }
def FnExactKeywordAtWrongFalsely : Prop := fnExactKeywordAtRow.holds Try.pinned (OpenSpec.ofChange fnExactKeywordAtWrong)

/-- 'laws.FnExactCommon': WHATEVER THE INPUT: true; the input reads as it did. -/
def fnExactCommonSpec : ChangeSpec := { name := "fnExactCommon", fn := fun _ => fun
  | [d1, d2] => { results := [.lit (.bool true)], args := [d1, d2] }
  | _ => none }
def fnExactCommonRow : OpenClaim := { program := "ytlfhnlghfgjooaa", sum := "bf3ec8c7054bad960cbe5df6dd86ccff357d7ede4ca75146aa87a4f36861ba5a", func := "loop.example/g00132/laws.FnExactCommon", spec := "fnExactCommon", unfollowed := true, recurses := true, apart := false }
def FnExactCommonSaid : Prop := fnExactCommonRow.holds Try.pinned (OpenSpec.ofChange fnExactCommonSpec)

/-- ITS FALSE NEIGHBOUR: 'it returns false'. Refute it at one input. -/
def fnExactCommonWrong : ChangeSpec := { name := "fnExactCommon", fn := fun _ => fun
  | [d1, d2] => { results := [.lit (.bool false)], args := [d1, d2] }
  | _ => none }
def FnExactCommonWrongFalsely : Prop := fnExactCommonRow.holds Try.pinned (OpenSpec.ofChange fnExactCommonWrong)

/-- 'laws.FnExactJoined': WHATEVER THE INPUT: true; the input reads as it did. -/
def fnExactJoinedSpec : ChangeSpec := { name := "fnExactJoined", fn := fun _ => fun
  | [d1, d2] => { results := [.lit (.bool true)], args := [d1, d2] }
  | _ => none }
def fnExactJoinedRow : OpenClaim := { program := "ytlfhnlghfgjooaa", sum := "bf3ec8c7054bad960cbe5df6dd86ccff357d7ede4ca75146aa87a4f36861ba5a", func := "loop.example/g00132/laws.FnExactJoined", spec := "fnExactJoined", unfollowed := true, recurses := true, apart := false }
def FnExactJoinedSaid : Prop := fnExactJoinedRow.holds Try.pinned (OpenSpec.ofChange fnExactJoinedSpec)

/-- ITS FALSE NEIGHBOUR: 'it returns false'. Refute it at one input. -/
def fnExactJoinedWrong : ChangeSpec := { name := "fnExactJoined", fn := fun _ => fun
  | [d1, d2] => { results := [.lit (.bool false)], args := [d1, d2] }
  | _ => none }
def FnExactJoinedWrongFalsely : Prop := fnExactJoinedRow.holds Try.pinned (OpenSpec.ofChange fnExactJoinedWrong)

/-- 'laws.FnExactWithout': WHATEVER THE INPUT: true; the input reads as it did. -/
def fnExactWithoutSpec : ChangeSpec := { name := "fnExactWithout", fn := fun _ => fun
  | [d1, d2] => { results := [.lit (.bool true)], args := [d1, d2] }
  | _ => none }
def fnExactWithoutRow : OpenClaim := { program := "ytlfhnlghfgjooaa", sum := "bf3ec8c7054bad960cbe5df6dd86ccff357d7ede4ca75146aa87a4f36861ba5a", func := "loop.example/g00132/laws.FnExactWithout", spec := "fnExactWithout", unfollowed := true, recurses := true, apart := false }
def FnExactWithoutSaid : Prop := fnExactWithoutRow.holds Try.pinned (OpenSpec.ofChange fnExactWithoutSpec)

/-- ITS FALSE NEIGHBOUR: 'it returns false'. Refute it at one input. -/
def fnExactWithoutWrong : ChangeSpec := { name := "fnExactWithout", fn := fun _ => fun
  | [d1, d2] => { results := [.lit (.bool false)], args := [d1, d2] }
  | _ => none }
def FnExactWithoutWrongFalsely : Prop := fnExactWithoutRow.holds Try.pinned (OpenSpec.ofChange fnExactWithoutWrong)

/-- 'laws.FnExactPackedOk': WHATEVER THE INPUT: true; the input reads as it did. -/
def fnExactPackedOkSpec : ChangeSpec := { name := "fnExactPackedOk", fn := fun _ => fun
  | [d] => { results := [.lit (.bool true)], args := [d] }
  | _ => none }
def fnExactPackedOkRow : OpenClaim := { program := "ytlfhnlghfgjooaa", sum := "bf3ec8c7054bad960cbe5df6dd86ccff357d7ede4ca75146aa87a4f36861ba5a", func := "loop.example/g00132/laws.FnExactPackedOk", spec := "fnExactPackedOk", unfollowed := true, recurses := true, apart := false }
def FnExactPackedOkSaid : Prop := fnExactPackedOkRow.holds Try.pinned (OpenSpec.ofChange fnExactPackedOkSpec)

/-- ITS FALSE NEIGHBOUR: 'it returns false'. Refute it at one input. -/
def fnExactPackedOkWrong : ChangeSpec := { name := "fnExactPackedOk", fn := fun _ => fun
  | [d] => { results := [.lit (.bool false)], args := [d] }
  | _ => none }
def FnExactPackedOkWrongFalsely : Prop := fnExactPackedOkRow.holds Try.pinned (OpenSpec.ofChange fnExactPackedOkWrong)

/-- 'laws.FnExactDfaOk': WHATEVER THE INPUT: true; the input reads as it did. -/
def fnExactDfaOkSpec : ChangeSpec := { name := "fnExactDfaOk", fn := fun _ => fun
  | [d] => { results := [.lit (.bool true)], args := [d] }
  | _ => none }
def fnExactDfaOkRow : OpenClaim := { program := "ytlfhnlghfgjooaa", sum := "bf3ec8c7054bad960cbe5df6dd86ccff357d7ede4ca75146aa87a4f36861ba5a", func := "loop.example/g00132/laws.FnExactDfaOk", spec := "fnExactDfaOk", unfollowed := true, recurses := true, apart := false }
def FnExactDfaOkSaid : Prop := fnExactDfaOkRow.holds Try.pinned (OpenSpec.ofChange fnExactDfaOkSpec)

/-- ITS FALSE NEIGHBOUR: 'it returns false'. Refute it at one input. -/
def fnExactDfaOkWrong : ChangeSpec := { name := "fnExactDfaOk", fn := fun _ => fun
  | [d] => { results := [.lit (.bool false)], args := [d] }
  | _ => none }
def FnExactDfaOkWrongFalsely : Prop := fnExactDfaOkRow.holds Try.pinned (OpenSpec.ofChange fnExactDfaOkWrong)

/-- 'laws.FnExactOthers': WHATEVER THE INPUT: true; the input reads as it did. -/
def fnExactOthersSpec : ChangeSpec := { name := "fnExactOthers", fn := fun _ => fun
  | [d] => { results := [.lit (.bool true)], args := [d] }
  | _ => none }
def fnExactOthersRow : OpenClaim := { program := "ytlfhnlghfgjooaa", sum := "bf3ec8c7054bad960cbe5df6dd86ccff357d7ede4ca75146aa87a4f36861ba5a", func := "loop.example/g00132/laws.FnExactOthers", spec := "fnExactOthers", unfollowed := true, recurses := true, apart := false }
def FnExactOthersSaid : Prop := fnExactOthersRow.holds Try.pinned (OpenSpec.ofChange fnExactOthersSpec)

/-- ITS FALSE NEIGHBOUR: 'it returns false'. Refute it at one input. -/
def fnExactOthersWrong : ChangeSpec := { name := "fnExactOthers", fn := fun _ => fun
  | [d] => { results := [.lit (.bool false)], args := [d] }
  | _ => none }
def FnExactOthersWrongFalsely : Prop := fnExactOthersRow.holds Try.pinned (OpenSpec.ofChange fnExactOthersWrong)

/-- 'laws.FnExactBuildKeywords': WHATEVER THE INPUT: true; the input reads as it did. -/
def fnExactBuildKeywordsSpec : ChangeSpec := { name := "fnExactBuildKeywords", fn := fun _ => fun
  | [d] => { results := [.lit (.bool true)], args := [d] }
  | _ => none }
def fnExactBuildKeywordsRow : OpenClaim := { program := "ytlfhnlghfgjooaa", sum := "bf3ec8c7054bad960cbe5df6dd86ccff357d7ede4ca75146aa87a4f36861ba5a", func := "loop.example/g00132/laws.FnExactBuildKeywords", spec := "fnExactBuildKeywords", apart := false }
def FnExactBuildKeywordsSaid : Prop := fnExactBuildKeywordsRow.holds Try.pinned (OpenSpec.ofChange fnExactBuildKeywordsSpec)

/-- ITS FALSE NEIGHBOUR: 'it returns false'. Refute it at one input. -/
def fnExactBuildKeywordsWrong : ChangeSpec := { name := "fnExactBuildKeywords", fn := fun _ => fun
  | [d] => { results := [.lit (.bool false)], args := [d] }
  | _ => none }
def FnExactBuildKeywordsWrongFalsely : Prop := fnExactBuildKeywordsRow.holds Try.pinned (OpenSpec.ofChange fnExactBuildKeywordsWrong)

/-- 'laws.FnClasses': WHATEVER THE INPUT: true; the input reads as it did. -/
def fnClassesSpec : ChangeSpec := { name := "fnClasses", fn := fun _ => fun
  | [d] => { results := [.lit (.bool true)], args := [d] }
  | _ => none }
def fnClassesRow : OpenClaim := { program := "ytlfhnlghfgjooaa", sum := "bf3ec8c7054bad960cbe5df6dd86ccff357d7ede4ca75146aa87a4f36861ba5a", func := "loop.example/g00132/laws.FnClasses", spec := "fnClasses", unfollowed := true, recurses := true, apart := false }
def FnClassesSaid : Prop := fnClassesRow.holds Try.pinned (OpenSpec.ofChange fnClassesSpec)

/-- ITS FALSE NEIGHBOUR: 'it returns false'. Refute it at one input. -/
def fnClassesWrong : ChangeSpec := { name := "fnClasses", fn := fun _ => fun
  | [d] => { results := [.lit (.bool false)], args := [d] }
  | _ => none }
def FnClassesWrongFalsely : Prop := fnClassesRow.holds Try.pinned (OpenSpec.ofChange fnClassesWrong)

/- THE SECOND FORM. 'bulk': how many values and letters a reading holds, each counted each time it is reached (what is shared counts as often as it is met; a slice's spare places count too). A statement '..UptoSaid' is the law's where the arguments, and the package variables that the reading takes, are together of bulk at most 1048576: NARROWER than '..Said'. Prove '..Said' where nothing that the law and all that it calls make is longer than what came in: it says more and counts as full. Else prove '..UptoSaid'. A law counts once. -/
mutual
def uptoBulk {H : Type} : DataW H → Nat
  | .lit (.string bytes) => bytes.length + 1
  | .lit _ => 1
  | .nil => 1
  | .ptr d => uptoBulk d + 1
  | .slice elems spare => uptoBulkAll elems + uptoBulkAll spare + 1
  | .agg parts => uptoBulkAll parts + 1
  | .iface _ d => uptoBulk d + 1
  | .map entries => uptoBulkEntries entries + 1
  | .held _ => 1
def uptoBulkAll {H : Type} : List (DataW H) → Nat
  | [] => 0
  | d :: r => uptoBulk d + uptoBulkAll r
def uptoBulkEntries {H : Type} : List (Lit × DataW H) → Nat
  | [] => 0
  | x :: r => uptoBulkEntry x + uptoBulkEntries r
def uptoBulkEntry {H : Type} : Lit × DataW H → Nat
  | (.string bytes, d) => bytes.length + uptoBulk d + 1
  | (_, d) => uptoBulk d + 1
 end
def uptoSmall : (H : Type) → List (DataW H) → Bool := fun _ ds => decide (uptoBulkAll ds ≤ 1048576)
def OpenSpec.upto (s : _root_.Go.ChangeSpec) : _root_.Go.OpenSpec := { _root_.Go.OpenSpec.ofChange s with cond := some uptoSmall }

/-- 'laws.FnExactKeywordsOk', WHERE WHAT IT READS IS OF BULK AT MOST 1048576: true; the input reads as it did. -/
def fnExactKeywordsOkUptoRow : OpenClaim := { program := "ytlfhnlghfgjooaa", sum := "bf3ec8c7054bad960cbe5df6dd86ccff357d7ede4ca75146aa87a4f36861ba5a", func := "loop.example/g00132/laws.FnExactKeywordsOk", spec := "fnExactKeywordsOk", apart := false, narrowed := true }
def FnExactKeywordsOkUptoSaid : Prop := fnExactKeywordsOkUptoRow.holds Try.pinned (OpenSpec.upto fnExactKeywordsOkSpec)

/-- 'laws.FnExactLetterAt', WHERE WHAT IT READS IS OF BULK AT MOST 1048576: true; the input reads as it did. -/
def fnExactLetterAtUptoRow : OpenClaim := { program := "ytlfhnlghfgjooaa", sum := "bf3ec8c7054bad960cbe5df6dd86ccff357d7ede4ca75146aa87a4f36861ba5a", func := "loop.example/g00132/laws.FnExactLetterAt", spec := "fnExactLetterAt", apart := false, narrowed := true }
def FnExactLetterAtUptoSaid : Prop := fnExactLetterAtUptoRow.holds Try.pinned (OpenSpec.upto fnExactLetterAtSpec)

/-- 'laws.FnExactKeywordAt', WHERE WHAT IT READS IS OF BULK AT MOST 1048576: true; the input reads as it did. -/
def fnExactKeywordAtUptoRow : OpenClaim := { program := "ytlfhnlghfgjooaa", sum := "bf3ec8c7054bad960cbe5df6dd86ccff357d7ede4ca75146aa87a4f36861ba5a", func := "loop.example/g00132/laws.FnExactKeywordAt", spec := "fnExactKeywordAt", apart := false, narrowed := true }
def FnExactKeywordAtUptoSaid : Prop := fnExactKeywordAtUptoRow.holds Try.pinned (OpenSpec.upto fnExactKeywordAtSpec)

/-- 'laws.FnExactCommon', WHERE WHAT IT READS IS OF BULK AT MOST 1048576: true; the input reads as it did. -/
def fnExactCommonUptoRow : OpenClaim := { program := "ytlfhnlghfgjooaa", sum := "bf3ec8c7054bad960cbe5df6dd86ccff357d7ede4ca75146aa87a4f36861ba5a", func := "loop.example/g00132/laws.FnExactCommon", spec := "fnExactCommon", unfollowed := true, recurses := true, apart := false, narrowed := true }
def FnExactCommonUptoSaid : Prop := fnExactCommonUptoRow.holds Try.pinned (OpenSpec.upto fnExactCommonSpec)

/-- 'laws.FnExactJoined', WHERE WHAT IT READS IS OF BULK AT MOST 1048576: true; the input reads as it did. -/
def fnExactJoinedUptoRow : OpenClaim := { program := "ytlfhnlghfgjooaa", sum := "bf3ec8c7054bad960cbe5df6dd86ccff357d7ede4ca75146aa87a4f36861ba5a", func := "loop.example/g00132/laws.FnExactJoined", spec := "fnExactJoined", unfollowed := true, recurses := true, apart := false, narrowed := true }
def FnExactJoinedUptoSaid : Prop := fnExactJoinedUptoRow.holds Try.pinned (OpenSpec.upto fnExactJoinedSpec)

/-- 'laws.FnExactWithout', WHERE WHAT IT READS IS OF BULK AT MOST 1048576: true; the input reads as it did. -/
def fnExactWithoutUptoRow : OpenClaim := { program := "ytlfhnlghfgjooaa", sum := "bf3ec8c7054bad960cbe5df6dd86ccff357d7ede4ca75146aa87a4f36861ba5a", func := "loop.example/g00132/laws.FnExactWithout", spec := "fnExactWithout", unfollowed := true, recurses := true, apart := false, narrowed := true }
def FnExactWithoutUptoSaid : Prop := fnExactWithoutUptoRow.holds Try.pinned (OpenSpec.upto fnExactWithoutSpec)

/-- 'laws.FnExactPackedOk', WHERE WHAT IT READS IS OF BULK AT MOST 1048576: true; the input reads as it did. -/
def fnExactPackedOkUptoRow : OpenClaim := { program := "ytlfhnlghfgjooaa", sum := "bf3ec8c7054bad960cbe5df6dd86ccff357d7ede4ca75146aa87a4f36861ba5a", func := "loop.example/g00132/laws.FnExactPackedOk", spec := "fnExactPackedOk", unfollowed := true, recurses := true, apart := false, narrowed := true }
def FnExactPackedOkUptoSaid : Prop := fnExactPackedOkUptoRow.holds Try.pinned (OpenSpec.upto fnExactPackedOkSpec)

/-- 'laws.FnExactDfaOk', WHERE WHAT IT READS IS OF BULK AT MOST 1048576: true; the input reads as it did. -/
def fnExactDfaOkUptoRow : OpenClaim := { program := "ytlfhnlghfgjooaa", sum := "bf3ec8c7054bad960cbe5df6dd86ccff357d7ede4ca75146aa87a4f36861ba5a", func := "loop.example/g00132/laws.FnExactDfaOk", spec := "fnExactDfaOk", unfollowed := true, recurses := true, apart := false, narrowed := true }
def FnExactDfaOkUptoSaid : Prop := fnExactDfaOkUptoRow.holds Try.pinned (OpenSpec.upto fnExactDfaOkSpec)

/-- 'laws.FnExactOthers', WHERE WHAT IT READS IS OF BULK AT MOST 1048576: true; the input reads as it did. -/
def fnExactOthersUptoRow : OpenClaim := { program := "ytlfhnlghfgjooaa", sum := "bf3ec8c7054bad960cbe5df6dd86ccff357d7ede4ca75146aa87a4f36861ba5a", func := "loop.example/g00132/laws.FnExactOthers", spec := "fnExactOthers", unfollowed := true, recurses := true, apart := false, narrowed := true }
def FnExactOthersUptoSaid : Prop := fnExactOthersUptoRow.holds Try.pinned (OpenSpec.upto fnExactOthersSpec)

/-- 'laws.FnExactBuildKeywords', WHERE WHAT IT READS IS OF BULK AT MOST 1048576: true; the input reads as it did. -/
def fnExactBuildKeywordsUptoRow : OpenClaim := { program := "ytlfhnlghfgjooaa", sum := "bf3ec8c7054bad960cbe5df6dd86ccff357d7ede4ca75146aa87a4f36861ba5a", func := "loop.example/g00132/laws.FnExactBuildKeywords", spec := "fnExactBuildKeywords", apart := false, narrowed := true }
def FnExactBuildKeywordsUptoSaid : Prop := fnExactBuildKeywordsUptoRow.holds Try.pinned (OpenSpec.upto fnExactBuildKeywordsSpec)

/-- 'laws.FnClasses', WHERE WHAT IT READS IS OF BULK AT MOST 1048576: true; the input reads as it did. -/
def fnClassesUptoRow : OpenClaim := { program := "ytlfhnlghfgjooaa", sum := "bf3ec8c7054bad960cbe5df6dd86ccff357d7ede4ca75146aa87a4f36861ba5a", func := "loop.example/g00132/laws.FnClasses", spec := "fnClasses", unfollowed := true, recurses := true, apart := false, narrowed := true }
def FnClassesUptoSaid : Prop := fnClassesUptoRow.holds Try.pinned (OpenSpec.upto fnClassesSpec)

end Rows
end Go.Proofs.Ytlfhnlghfgjooaa
