/-
  No cell of these rows narrows 'for every input' (looked for: loops, veiled, ifaces, maps, wideKeys, modest, calm, conditions, laid).
  DERIVED. THE GIVEN ROWS OF THIS SEAT. 11 by the template 'for every input the law returns true; each argument reads behind the call as it read before'; 0 by the template 'total and deterministic' (their statements: YtbijmhooamjgoaaTotals.lean).
  GIVEN WITH THE SEED: the statements are not yours to turn. If you find one false, say at which input.
  Laid BY PROGRAM, IN A SANDBOX (cutbox-rows.mjs): the forced cells as the released guide's own fill.sh prints them over the translation 786bc552c9673db5… (all of the seat's roots in one cut). By AI agents, Wed Nov 11 2026. No macro, syntax, notation, axiom, sorry.
-/
import Derived.Test.YtbijmhooamjgoaaChecked
import GoSem.Claim
import GoSem.ClaimJoined
import GoSem.ClaimMapViews
import Derived.JoinedTies
import Derived.KernelRfl
namespace Go.Proofs.Ytbijmhooamjgoaa
/- THE CELL 'sum', in the pinned program and in every row, IS THE sha256 OF THE DUMP (.gsa) THAT YtbijmhooamjgoaaProg.lean LOADS. Nothing in Lean hashes anything: it is a label: what it is worth is what the hold of that sum in a sandbox is worth. -/
noncomputable def Try.pinned : Pinned := { name := "ytbijmhooamjgoaa", sum := "786bc552c9673db5eb26e7dcc4051f32f13558a2a90c2c59898ac655e6bd78ef", checked := Try.checked }
namespace Rows
def none {H : Type} : Left H := { results := [], args := [] }

/-- 'laws.FnRows': WHATEVER THE INPUT: true; the input reads as it did. -/
def fnRowsSpec : ChangeSpec := { name := "fnRows", fn := fun _ => fun
  | [d1, d2] => { results := [.lit (.bool true)], args := [d1, d2] }
  | _ => none }
def fnRowsRow : OpenClaim := { program := "ytbijmhooamjgoaa", sum := "786bc552c9673db5eb26e7dcc4051f32f13558a2a90c2c59898ac655e6bd78ef", func := "loop.example/g00132/laws.FnRows", spec := "fnRows", plainKeys := false, apart := false }
def FnRowsSaid : Prop := fnRowsRow.holds Try.pinned (OpenSpec.ofChange fnRowsSpec)

/-- ITS FALSE NEIGHBOUR: 'it returns false'. Refute it at one input. -/
def fnRowsWrong : ChangeSpec := { name := "fnRows", fn := fun _ => fun
  | [d1, d2] => { results := [.lit (.bool false)], args := [d1, d2] }
  | _ => none }
def FnRowsWrongFalsely : Prop := fnRowsRow.holds Try.pinned (OpenSpec.ofChange fnRowsWrong)

/-- 'laws.FnExactBlocks': WHATEVER THE INPUT: true; the input reads as it did. -/
def fnExactBlocksSpec : ChangeSpec := { name := "fnExactBlocks", fn := fun _ => fun
  | [d] => { results := [.lit (.bool true)], args := [d] }
  | _ => none }
def fnExactBlocksRow : OpenClaim := { program := "ytbijmhooamjgoaa", sum := "786bc552c9673db5eb26e7dcc4051f32f13558a2a90c2c59898ac655e6bd78ef", func := "loop.example/g00132/laws.FnExactBlocks", spec := "fnExactBlocks", plainKeys := false, apart := false }
def FnExactBlocksSaid : Prop := fnExactBlocksRow.holds Try.pinned (OpenSpec.ofChange fnExactBlocksSpec)

/-- ITS FALSE NEIGHBOUR: 'it returns false'. Refute it at one input. -/
def fnExactBlocksWrong : ChangeSpec := { name := "fnExactBlocks", fn := fun _ => fun
  | [d] => { results := [.lit (.bool false)], args := [d] }
  | _ => none }
def FnExactBlocksWrongFalsely : Prop := fnExactBlocksRow.holds Try.pinned (OpenSpec.ofChange fnExactBlocksWrong)

/-- 'laws.FnBlocks': WHATEVER THE INPUT: true; the input reads as it did. -/
def fnBlocksSpec : ChangeSpec := { name := "fnBlocks", fn := fun _ => fun
  | [d] => { results := [.lit (.bool true)], args := [d] }
  | _ => none }
def fnBlocksRow : OpenClaim := { program := "ytbijmhooamjgoaa", sum := "786bc552c9673db5eb26e7dcc4051f32f13558a2a90c2c59898ac655e6bd78ef", func := "loop.example/g00132/laws.FnBlocks", spec := "fnBlocks", plainKeys := false, apart := false }
def FnBlocksSaid : Prop := fnBlocksRow.holds Try.pinned (OpenSpec.ofChange fnBlocksSpec)

/-- ITS FALSE NEIGHBOUR: 'it returns false'. Refute it at one input. -/
def fnBlocksWrong : ChangeSpec := { name := "fnBlocks", fn := fun _ => fun
  | [d] => { results := [.lit (.bool false)], args := [d] }
  | _ => none }
def FnBlocksWrongFalsely : Prop := fnBlocksRow.holds Try.pinned (OpenSpec.ofChange fnBlocksWrong)

/-- 'laws.FnExactWitnessOf': WHATEVER THE INPUT: true; the input reads as it did. -/
def fnExactWitnessOfSpec : ChangeSpec := { name := "fnExactWitnessOf", fn := fun _ => fun
  | [d1, d2] => { results := [.lit (.bool true)], args := [d1, d2] }
  | _ => none }
def fnExactWitnessOfRow : OpenClaim := { program := "ytbijmhooamjgoaa", sum := "786bc552c9673db5eb26e7dcc4051f32f13558a2a90c2c59898ac655e6bd78ef", func := "loop.example/g00132/laws.FnExactWitnessOf", spec := "fnExactWitnessOf", unfollowed := true, recurses := true, plainKeys := false, apart := false }
def FnExactWitnessOfSaid : Prop := fnExactWitnessOfRow.holds Try.pinned (OpenSpec.ofChange fnExactWitnessOfSpec)

/-- ITS FALSE NEIGHBOUR: 'it returns false'. Refute it at one input. -/
def fnExactWitnessOfWrong : ChangeSpec := { name := "fnExactWitnessOf", fn := fun _ => fun
  | [d1, d2] => { results := [.lit (.bool false)], args := [d1, d2] }
  | _ => none }
def FnExactWitnessOfWrongFalsely : Prop := fnExactWitnessOfRow.holds Try.pinned (OpenSpec.ofChange fnExactWitnessOfWrong)

/-- 'laws.FnExactSameMap': WHATEVER THE INPUT: true; the input reads as it did. -/
def fnExactSameMapSpec : ChangeSpec := { name := "fnExactSameMap", fn := fun _ => fun
  | [d1, d2] => { results := [.lit (.bool true)], args := [d1, d2] }
  | _ => none }
def fnExactSameMapRow : OpenClaim := { program := "ytbijmhooamjgoaa", sum := "786bc552c9673db5eb26e7dcc4051f32f13558a2a90c2c59898ac655e6bd78ef", func := "loop.example/g00132/laws.FnExactSameMap", spec := "fnExactSameMap", unfollowed := true, recurses := true, plainKeys := false, apart := false }
def FnExactSameMapSaid : Prop := fnExactSameMapRow.holds Try.pinned (OpenSpec.ofChange fnExactSameMapSpec)

/-- ITS FALSE NEIGHBOUR: 'it returns false'. Refute it at one input. -/
def fnExactSameMapWrong : ChangeSpec := { name := "fnExactSameMap", fn := fun _ => fun
  | [d1, d2] => { results := [.lit (.bool false)], args := [d1, d2] }
  | _ => none }
def FnExactSameMapWrongFalsely : Prop := fnExactSameMapRow.holds Try.pinned (OpenSpec.ofChange fnExactSameMapWrong)

/-- 'laws.FnKeywords': WHATEVER THE INPUT: true; the input reads as it did. -/
def fnKeywordsSpec : ChangeSpec := { name := "fnKeywords", fn := fun _ => fun
  | [d1, d2] => { results := [.lit (.bool true)], args := [d1, d2] }
  | _ => none }
def fnKeywordsRow : OpenClaim := { program := "ytbijmhooamjgoaa", sum := "786bc552c9673db5eb26e7dcc4051f32f13558a2a90c2c59898ac655e6bd78ef", func := "loop.example/g00132/laws.FnKeywords", spec := "fnKeywords", unfollowed := true, recurses := true, plainKeys := false, apart := false }
def FnKeywordsSaid : Prop := fnKeywordsRow.holds Try.pinned (OpenSpec.ofChange fnKeywordsSpec)

/-- ITS FALSE NEIGHBOUR: 'it returns false'. Refute it at one input. -/
def fnKeywordsWrong : ChangeSpec := { name := "fnKeywords", fn := fun _ => fun
  | [d1, d2] => { results := [.lit (.bool false)], args := [d1, d2] }
  | _ => none }
def FnKeywordsWrongFalsely : Prop := fnKeywordsRow.holds Try.pinned (OpenSpec.ofChange fnKeywordsWrong)

/-- 'laws.FnExactPack': WHATEVER THE INPUT: true; the input reads as it did. -/
def fnExactPackSpec : ChangeSpec := { name := "fnExactPack", fn := fun _ => fun
  | [d] => { results := [.lit (.bool true)], args := [d] }
  | _ => none }
def fnExactPackRow : OpenClaim := { program := "ytbijmhooamjgoaa", sum := "786bc552c9673db5eb26e7dcc4051f32f13558a2a90c2c59898ac655e6bd78ef", func := "loop.example/g00132/laws.FnExactPack", spec := "fnExactPack", unfollowed := true, recurses := true, plainKeys := false, apart := false }
def FnExactPackSaid : Prop := fnExactPackRow.holds Try.pinned (OpenSpec.ofChange fnExactPackSpec)

/-- ITS FALSE NEIGHBOUR: 'it returns false'. Refute it at one input. -/
def fnExactPackWrong : ChangeSpec := { name := "fnExactPack", fn := fun _ => fun
  | [d] => { results := [.lit (.bool false)], args := [d] }
  | _ => none }
def FnExactPackWrongFalsely : Prop := fnExactPackRow.holds Try.pinned (OpenSpec.ofChange fnExactPackWrong)

/-- 'laws.FnExactClosure': WHATEVER THE INPUT: true; the input reads as it did. -/
def fnExactClosureSpec : ChangeSpec := { name := "fnExactClosure", fn := fun _ => fun
  | [d1, d2] => { results := [.lit (.bool true)], args := [d1, d2] }
  | _ => none }
def fnExactClosureRow : OpenClaim := { program := "ytbijmhooamjgoaa", sum := "786bc552c9673db5eb26e7dcc4051f32f13558a2a90c2c59898ac655e6bd78ef", func := "loop.example/g00132/laws.FnExactClosure", spec := "fnExactClosure", unfollowed := true, recurses := true, plainKeys := false, apart := false }
def FnExactClosureSaid : Prop := fnExactClosureRow.holds Try.pinned (OpenSpec.ofChange fnExactClosureSpec)

/-- ITS FALSE NEIGHBOUR: 'it returns false'. Refute it at one input. -/
def fnExactClosureWrong : ChangeSpec := { name := "fnExactClosure", fn := fun _ => fun
  | [d1, d2] => { results := [.lit (.bool false)], args := [d1, d2] }
  | _ => none }
def FnExactClosureWrongFalsely : Prop := fnExactClosureRow.holds Try.pinned (OpenSpec.ofChange fnExactClosureWrong)

/-- 'laws.FnExactMoveOn': WHATEVER THE INPUT: true; the input reads as it did. -/
def fnExactMoveOnSpec : ChangeSpec := { name := "fnExactMoveOn", fn := fun _ => fun
  | [d1, d2, d3] => { results := [.lit (.bool true)], args := [d1, d2, d3] }
  | _ => none }
def fnExactMoveOnRow : OpenClaim := { program := "ytbijmhooamjgoaa", sum := "786bc552c9673db5eb26e7dcc4051f32f13558a2a90c2c59898ac655e6bd78ef", func := "loop.example/g00132/laws.FnExactMoveOn", spec := "fnExactMoveOn", unfollowed := true, recurses := true, plainKeys := false, apart := false }
def FnExactMoveOnSaid : Prop := fnExactMoveOnRow.holds Try.pinned (OpenSpec.ofChange fnExactMoveOnSpec)

/-- ITS FALSE NEIGHBOUR: 'it returns false'. Refute it at one input. -/
def fnExactMoveOnWrong : ChangeSpec := { name := "fnExactMoveOn", fn := fun _ => fun
  | [d1, d2, d3] => { results := [.lit (.bool false)], args := [d1, d2, d3] }
  | _ => none }
def FnExactMoveOnWrongFalsely : Prop := fnExactMoveOnRow.holds Try.pinned (OpenSpec.ofChange fnExactMoveOnWrong)

/-- 'laws.FnExactNfaMatch': WHATEVER THE INPUT: true; the input reads as it did. -/
def fnExactNfaMatchSpec : ChangeSpec := { name := "fnExactNfaMatch", fn := fun _ => fun
  | [d1, d2] => { results := [.lit (.bool true)], args := [d1, d2] }
  | _ => none }
def fnExactNfaMatchRow : OpenClaim := { program := "ytbijmhooamjgoaa", sum := "786bc552c9673db5eb26e7dcc4051f32f13558a2a90c2c59898ac655e6bd78ef", func := "loop.example/g00132/laws.FnExactNfaMatch", spec := "fnExactNfaMatch", unfollowed := true, recurses := true, plainKeys := false, apart := false }
def FnExactNfaMatchSaid : Prop := fnExactNfaMatchRow.holds Try.pinned (OpenSpec.ofChange fnExactNfaMatchSpec)

/-- ITS FALSE NEIGHBOUR: 'it returns false'. Refute it at one input. -/
def fnExactNfaMatchWrong : ChangeSpec := { name := "fnExactNfaMatch", fn := fun _ => fun
  | [d1, d2] => { results := [.lit (.bool false)], args := [d1, d2] }
  | _ => none }
def FnExactNfaMatchWrongFalsely : Prop := fnExactNfaMatchRow.holds Try.pinned (OpenSpec.ofChange fnExactNfaMatchWrong)

/-- 'laws.FnExactFolded': WHATEVER THE INPUT: true; the input reads as it did. -/
def fnExactFoldedSpec : ChangeSpec := { name := "fnExactFolded", fn := fun _ => fun
  | [d] => { results := [.lit (.bool true)], args := [d] }
  | _ => none }
def fnExactFoldedRow : OpenClaim := { program := "ytbijmhooamjgoaa", sum := "786bc552c9673db5eb26e7dcc4051f32f13558a2a90c2c59898ac655e6bd78ef", func := "loop.example/g00132/laws.FnExactFolded", spec := "fnExactFolded", unfollowed := true, recurses := true, plainKeys := false, apart := false }
def FnExactFoldedSaid : Prop := fnExactFoldedRow.holds Try.pinned (OpenSpec.ofChange fnExactFoldedSpec)

/-- ITS FALSE NEIGHBOUR: 'it returns false'. Refute it at one input. -/
def fnExactFoldedWrong : ChangeSpec := { name := "fnExactFolded", fn := fun _ => fun
  | [d] => { results := [.lit (.bool false)], args := [d] }
  | _ => none }
def FnExactFoldedWrongFalsely : Prop := fnExactFoldedRow.holds Try.pinned (OpenSpec.ofChange fnExactFoldedWrong)

/- THE SECOND FORM. 'bulk': how many values and letters a reading holds, each counted each time it is reached (what is shared counts as often as it is met; a slice's spare places count too). A statement '..UptoSaid' is the law's where the arguments, and the package variables that the reading takes, are together of bulk at most 1048576: NARROWER than '..Said'. Prove '..Said' where nothing that the law and all that it calls make is longer than what came in: it says more and counts as full. Else prove '..UptoSaid'. A law counts once. -/
mutual
def uptoBulk {H : Type} : DataW H → Nat
  | .lit (.string bytes) => bytes.length + 1
  | .lit _ => 1
  | .nil => 1
  | .ptr d => uptoBulk d + 1
  | .slice elems spare => uptoBulkAll elems + uptoBulkAll spare + 1
  | .agg parts => uptoBulkAll parts + 1
  | .iface _ d => uptoBulk d + 1
  | .map entries => uptoBulkEntries entries + 1
  | .held _ => 1
def uptoBulkAll {H : Type} : List (DataW H) → Nat
  | [] => 0
  | d :: r => uptoBulk d + uptoBulkAll r
def uptoBulkEntries {H : Type} : List (Lit × DataW H) → Nat
  | [] => 0
  | x :: r => uptoBulkEntry x + uptoBulkEntries r
def uptoBulkEntry {H : Type} : Lit × DataW H → Nat
  | (.string bytes, d) => bytes.length + uptoBulk d + 1
  | (_, d) => uptoBulk d + 1
 end
def uptoSmall : (H : Type) → List (DataW H) → Bool := fun _ ds => decide (uptoBulkAll ds ≤ 1048576)
def OpenSpec.upto (s : _root_.Go.ChangeSpec) : _root_.Go.OpenSpec := { _root_.Go.OpenSpec.ofChange s with cond := some uptoSmall }

/-- 'laws.FnRows', WHERE WHAT IT READS IS OF BULK AT MOST 1048576: true; the input reads as it did. -/
def fnRowsUptoRow : OpenClaim := { program := "ytbijmhooamjgoaa", sum := "786bc552c9673db5eb26e7dcc4051f32f13558a2a90c2c59898ac655e6bd78ef", func := "loop.example/g00132/laws.FnRows", spec := "fnRows", plainKeys := false, apart := false, narrowed := true }
def FnRowsUptoSaid : Prop := fnRowsUptoRow.holds Try.pinned (OpenSpec.upto fnRowsSpec)

/-- 'laws.FnExactBlocks', WHERE WHAT IT READS IS OF BULK AT MOST 1048576: true; the input reads as it did. -/
def fnExactBlocksUptoRow : OpenClaim := { program := "ytbijmhooamjgoaa", sum := "786bc552c9673db5eb26e7dcc4051f32f13558a2a90c2c59898ac655e6bd78ef", func := "loop.example/g00132/laws.FnExactBlocks", spec := "fnExactBlocks", plainKeys := false, apart := false, narrowed := true }
def FnExactBlocksUptoSaid : Prop := fnExactBlocksUptoRow.holds Try.pinned (OpenSpec.upto fnExactBlocksSpec)

/-- 'laws.FnBlocks', WHERE WHAT IT READS IS OF BULK AT MOST 1048576: true; the input reads as it did. -/
def fnBlocksUptoRow : OpenClaim := { program := "ytbijmhooamjgoaa", sum := "786bc552c9673db5eb26e7dcc4051f32f13558a2a90c2c59898ac655e6bd78ef", func := "loop.example/g00132/laws.FnBlocks", spec := "fnBlocks", plainKeys := false, apart := false, narrowed := true }
def FnBlocksUptoSaid : Prop := fnBlocksUptoRow.holds Try.pinned (OpenSpec.upto fnBlocksSpec)

/-- 'laws.FnExactWitnessOf', WHERE WHAT IT READS IS OF BULK AT MOST 1048576: true; the input reads as it did. -/
def fnExactWitnessOfUptoRow : OpenClaim := { program := "ytbijmhooamjgoaa", sum := "786bc552c9673db5eb26e7dcc4051f32f13558a2a90c2c59898ac655e6bd78ef", func := "loop.example/g00132/laws.FnExactWitnessOf", spec := "fnExactWitnessOf", unfollowed := true, recurses := true, plainKeys := false, apart := false, narrowed := true }
def FnExactWitnessOfUptoSaid : Prop := fnExactWitnessOfUptoRow.holds Try.pinned (OpenSpec.upto fnExactWitnessOfSpec)

/-- 'laws.FnExactSameMap', WHERE WHAT IT READS IS OF BULK AT MOST 1048576: true; the input reads as it did. -/
def fnExactSameMapUptoRow : OpenClaim := { program := "ytbijmhooamjgoaa", sum := "786bc552c9673db5eb26e7dcc4051f32f13558a2a90c2c59898ac655e6bd78ef", func := "loop.example/g00132/laws.FnExactSameMap", spec := "fnExactSameMap", unfollowed := true, recurses := true, plainKeys := false, apart := false, narrowed := true }
def FnExactSameMapUptoSaid : Prop := fnExactSameMapUptoRow.holds Try.pinned (OpenSpec.upto fnExactSameMapSpec)

/-- 'laws.FnKeywords', WHERE WHAT IT READS IS OF BULK AT MOST 1048576: true; the input reads as it did. -/
def fnKeywordsUptoRow : OpenClaim := { program := "ytbijmhooamjgoaa", sum := "786bc552c9673db5eb26e7dcc4051f32f13558a2a90c2c59898ac655e6bd78ef", func := "loop.example/g00132/laws.FnKeywords", spec := "fnKeywords", unfollowed := true, recurses := true, plainKeys := false, apart := false, narrowed := true }
def FnKeywordsUptoSaid : Prop := fnKeywordsUptoRow.holds Try.pinned (OpenSpec.upto fnKeywordsSpec)

/-- 'laws.FnExactPack', WHERE WHAT IT READS IS OF BULK AT MOST 1048576: true; the input reads as it did. -/
def fnExactPackUptoRow : OpenClaim := { program := "ytbijmhooamjgoaa", sum := "786bc552c9673db5eb26e7dcc4051f32f13558a2a90c2c59898ac655e6bd78ef", func := "loop.example/g00132/laws.FnExactPack", spec := "fnExactPack", unfollowed := true, recurses := true, plainKeys := false, apart := false, narrowed := true }
def FnExactPackUptoSaid : Prop := fnExactPackUptoRow.holds Try.pinned (OpenSpec.upto fnExactPackSpec)

/-- 'laws.FnExactClosure', WHERE WHAT IT READS IS OF BULK AT MOST 1048576: true; the input reads as it did. -/
def fnExactClosureUptoRow : OpenClaim := { program := "ytbijmhooamjgoaa", sum := "786bc552c9673db5eb26e7dcc4051f32f13558a2a90c2c59898ac655e6bd78ef", func := "loop.example/g00132/laws.FnExactClosure", spec := "fnExactClosure", unfollowed := true, recurses := true, plainKeys := false, apart := false, narrowed := true }
def FnExactClosureUptoSaid : Prop := fnExactClosureUptoRow.holds Try.pinned (OpenSpec.upto fnExactClosureSpec)

/-- 'laws.FnExactMoveOn', WHERE WHAT IT READS IS OF BULK AT MOST 1048576: true; the input reads as it did. -/
def fnExactMoveOnUptoRow : OpenClaim := { program := "ytbijmhooamjgoaa", sum := "786bc552c9673db5eb26e7dcc4051f32f13558a2a90c2c59898ac655e6bd78ef", func := "loop.example/g00132/laws.FnExactMoveOn", spec := "fnExactMoveOn", unfollowed := true, recurses := true, plainKeys := false, apart := false, narrowed := true }
def FnExactMoveOnUptoSaid : Prop := fnExactMoveOnUptoRow.holds Try.pinned (OpenSpec.upto fnExactMoveOnSpec)

/-- 'laws.FnExactNfaMatch', WHERE WHAT IT READS IS OF BULK AT MOST 1048576: true; the input reads as it did. -/
def fnExactNfaMatchUptoRow : OpenClaim := { program := "ytbijmhooamjgoaa", sum := "786bc552c9673db5eb26e7dcc4051f32f13558a2a90c2c59898ac655e6bd78ef", func := "loop.example/g00132/laws.FnExactNfaMatch", spec := "fnExactNfaMatch", unfollowed := true, recurses := true, plainKeys := false, apart := false, narrowed := true }
def FnExactNfaMatchUptoSaid : Prop := fnExactNfaMatchUptoRow.holds Try.pinned (OpenSpec.upto fnExactNfaMatchSpec)

/-- 'laws.FnExactFolded', WHERE WHAT IT READS IS OF BULK AT MOST 1048576: true; the input reads as it did. -/
def fnExactFoldedUptoRow : OpenClaim := { program := "ytbijmhooamjgoaa", sum := "786bc552c9673db5eb26e7dcc4051f32f13558a2a90c2c59898ac655e6bd78ef", func := "loop.example/g00132/laws.FnExactFolded", spec := "fnExactFolded", unfollowed := true, recurses := true, plainKeys := false, apart := false, narrowed := true }
def FnExactFoldedUptoSaid : Prop := fnExactFoldedUptoRow.holds Try.pinned (OpenSpec.upto fnExactFoldedSpec)

end Rows
end Go.Proofs.Ytbijmhooamjgoaa
