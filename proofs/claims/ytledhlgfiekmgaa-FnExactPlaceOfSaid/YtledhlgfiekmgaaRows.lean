/-
  No cell of these rows narrows 'for every input' (looked for: loops, veiled, ifaces, maps, wideKeys, modest, calm, conditions, laid).
  DERIVED. THE GIVEN ROWS OF THIS SEAT. 12 by the template 'for every input the law returns true; each argument reads behind the call as it read before'; 0 by the template 'total and deterministic' (their statements: YtledhlgfiekmgaaTotals.lean).
  GIVEN WITH THE SEED: the statements are not yours to turn. If you find one false, say at which input.
  Laid BY PROGRAM, IN A SANDBOX (cutbox-rows.mjs): the forced cells as the released guide's own fill.sh prints them over the translation 342c7d939b44ec69… (all of the seat's roots in one cut). By AI agents, Wed Nov 11 2026. No macro, syntax, notation, axiom, sorry.
-/
import Derived.Test.YtledhlgfiekmgaaChecked
import GoSem.Claim
import GoSem.ClaimJoined
import GoSem.ClaimMapViews
import Derived.JoinedTies
import Derived.KernelRfl
namespace Go.Proofs.Ytledhlgfiekmgaa
/- THE CELL 'sum', in the pinned program and in every row, IS THE sha256 OF THE DUMP (.gsa) THAT YtledhlgfiekmgaaProg.lean LOADS. Nothing in Lean hashes anything: it is a label: what it is worth is what the hold of that sum in a sandbox is worth. -/
noncomputable def Try.pinned : Pinned := { name := "ytledhlgfiekmgaa", sum := "342c7d939b44ec69f244662425d53cd7902ac95b5d7083dfac538d76f9561811", checked := Try.checked }
namespace Rows
def none {H : Type} : Left H := { results := [], args := [] }

/-- 'laws.FnExactWordsOf': WHATEVER THE INPUT: true; the input reads as it did. -/
def fnExactWordsOfSpec : ChangeSpec := { name := "fnExactWordsOf", fn := fun _ => fun
  | [d] => { results := [.lit (.bool true)], args := [d] }
  | _ => none }
def fnExactWordsOfRow : OpenClaim := { program := "ytledhlgfiekmgaa", sum := "342c7d939b44ec69f244662425d53cd7902ac95b5d7083dfac538d76f9561811", func := "loop.example/g00132/laws.FnExactWordsOf", spec := "fnExactWordsOf", unfollowed := true, recurses := true, apart := false }
def FnExactWordsOfSaid : Prop := fnExactWordsOfRow.holds Try.pinned (OpenSpec.ofChange fnExactWordsOfSpec)

/-- ITS FALSE NEIGHBOUR: 'it returns false'. Refute it at one input. -/
def fnExactWordsOfWrong : ChangeSpec := { name := "fnExactWordsOf", fn := fun _ => fun
  | [d] => { results := [.lit (.bool false)], args := [d] }
  | _ => none }
def FnExactWordsOfWrongFalsely : Prop := fnExactWordsOfRow.holds Try.pinned (OpenSpec.ofChange fnExactWordsOfWrong)

/-- 'laws.FnExactCovered': WHATEVER THE INPUT: true; the input reads as it did. -/
def fnExactCoveredSpec : ChangeSpec := { name := "fnExactCovered", fn := fun _ => fun
  | [d1, d2] => { results := [.lit (.bool true)], args := [d1, d2] }
  | _ => none }
def fnExactCoveredRow : OpenClaim := { program := "ytledhlgfiekmgaa", sum := "342c7d939b44ec69f244662425d53cd7902ac95b5d7083dfac538d76f9561811", func := "loop.example/g00132/laws.FnExactCovered", spec := "fnExactCovered", unfollowed := true, recurses := true, apart := false }
def FnExactCoveredSaid : Prop := fnExactCoveredRow.holds Try.pinned (OpenSpec.ofChange fnExactCoveredSpec)

/-- ITS FALSE NEIGHBOUR: 'it returns false'. Refute it at one input. -/
def fnExactCoveredWrong : ChangeSpec := { name := "fnExactCovered", fn := fun _ => fun
  | [d1, d2] => { results := [.lit (.bool false)], args := [d1, d2] }
  | _ => none }
def FnExactCoveredWrongFalsely : Prop := fnExactCoveredRow.holds Try.pinned (OpenSpec.ofChange fnExactCoveredWrong)

/-- 'laws.FnExactDfaMatch': WHATEVER THE INPUT: true; the input reads as it did. -/
def fnExactDfaMatchSpec : ChangeSpec := { name := "fnExactDfaMatch", fn := fun _ => fun
  | [d1, d2] => { results := [.lit (.bool true)], args := [d1, d2] }
  | _ => none }
def fnExactDfaMatchRow : OpenClaim := { program := "ytledhlgfiekmgaa", sum := "342c7d939b44ec69f244662425d53cd7902ac95b5d7083dfac538d76f9561811", func := "loop.example/g00132/laws.FnExactDfaMatch", spec := "fnExactDfaMatch", unfollowed := true, recurses := true, apart := false }
def FnExactDfaMatchSaid : Prop := fnExactDfaMatchRow.holds Try.pinned (OpenSpec.ofChange fnExactDfaMatchSpec)

/-- ITS FALSE NEIGHBOUR: 'it returns false'. Refute it at one input. -/
def fnExactDfaMatchWrong : ChangeSpec := { name := "fnExactDfaMatch", fn := fun _ => fun
  | [d1, d2] => { results := [.lit (.bool false)], args := [d1, d2] }
  | _ => none }
def FnExactDfaMatchWrongFalsely : Prop := fnExactDfaMatchRow.holds Try.pinned (OpenSpec.ofChange fnExactDfaMatchWrong)

/-- 'laws.FnExactSizeIn': WHATEVER THE INPUT: true; the input reads as it did. -/
def fnExactSizeInSpec : ChangeSpec := { name := "fnExactSizeIn", fn := fun _ => fun
  | [d] => { results := [.lit (.bool true)], args := [d] }
  | _ => none }
def fnExactSizeInRow : OpenClaim := { program := "ytledhlgfiekmgaa", sum := "342c7d939b44ec69f244662425d53cd7902ac95b5d7083dfac538d76f9561811", func := "loop.example/g00132/laws.FnExactSizeIn", spec := "fnExactSizeIn", unfollowed := true, recurses := true, apart := false }
def FnExactSizeInSaid : Prop := fnExactSizeInRow.holds Try.pinned (OpenSpec.ofChange fnExactSizeInSpec)

/-- ITS FALSE NEIGHBOUR: 'it returns false'. Refute it at one input. -/
def fnExactSizeInWrong : ChangeSpec := { name := "fnExactSizeIn", fn := fun _ => fun
  | [d] => { results := [.lit (.bool false)], args := [d] }
  | _ => none }
def FnExactSizeInWrongFalsely : Prop := fnExactSizeInRow.holds Try.pinned (OpenSpec.ofChange fnExactSizeInWrong)

/-- 'laws.FnExactNextIn': WHATEVER THE INPUT: true; the input reads as it did. -/
def fnExactNextInSpec : ChangeSpec := { name := "fnExactNextIn", fn := fun _ => fun
  | [d1, d2, d3] => { results := [.lit (.bool true)], args := [d1, d2, d3] }
  | _ => none }
def fnExactNextInRow : OpenClaim := { program := "ytledhlgfiekmgaa", sum := "342c7d939b44ec69f244662425d53cd7902ac95b5d7083dfac538d76f9561811", func := "loop.example/g00132/laws.FnExactNextIn", spec := "fnExactNextIn", unfollowed := true, recurses := true, apart := false }
def FnExactNextInSaid : Prop := fnExactNextInRow.holds Try.pinned (OpenSpec.ofChange fnExactNextInSpec)

/-- ITS FALSE NEIGHBOUR: 'it returns false'. Refute it at one input. -/
def fnExactNextInWrong : ChangeSpec := { name := "fnExactNextIn", fn := fun _ => fun
  | [d1, d2, d3] => { results := [.lit (.bool false)], args := [d1, d2, d3] }
  | _ => none }
def FnExactNextInWrongFalsely : Prop := fnExactNextInRow.holds Try.pinned (OpenSpec.ofChange fnExactNextInWrong)

/-- 'laws.FnExactDfaLongest': WHATEVER THE INPUT: true; the input reads as it did. -/
def fnExactDfaLongestSpec : ChangeSpec := { name := "fnExactDfaLongest", fn := fun _ => fun
  | [d1, d2, d3] => { results := [.lit (.bool true)], args := [d1, d2, d3] }
  | _ => none }
def fnExactDfaLongestRow : OpenClaim := { program := "ytledhlgfiekmgaa", sum := "342c7d939b44ec69f244662425d53cd7902ac95b5d7083dfac538d76f9561811", func := "loop.example/g00132/laws.FnExactDfaLongest", spec := "fnExactDfaLongest", unfollowed := true, recurses := true, apart := false }
def FnExactDfaLongestSaid : Prop := fnExactDfaLongestRow.holds Try.pinned (OpenSpec.ofChange fnExactDfaLongestSpec)

/-- ITS FALSE NEIGHBOUR: 'it returns false'. Refute it at one input. -/
def fnExactDfaLongestWrong : ChangeSpec := { name := "fnExactDfaLongest", fn := fun _ => fun
  | [d1, d2, d3] => { results := [.lit (.bool false)], args := [d1, d2, d3] }
  | _ => none }
def FnExactDfaLongestWrongFalsely : Prop := fnExactDfaLongestRow.holds Try.pinned (OpenSpec.ofChange fnExactDfaLongestWrong)

/-- 'laws.FnLetters': WHATEVER THE INPUT: true; the input reads as it did. -/
def fnLettersSpec : ChangeSpec := { name := "fnLetters", fn := fun _ => fun
  | [d1, d2] => { results := [.lit (.bool true)], args := [d1, d2] }
  | _ => none }
def fnLettersRow : OpenClaim := { program := "ytledhlgfiekmgaa", sum := "342c7d939b44ec69f244662425d53cd7902ac95b5d7083dfac538d76f9561811", func := "loop.example/g00132/laws.FnLetters", spec := "fnLetters", apart := false }
def FnLettersSaid : Prop := fnLettersRow.holds Try.pinned (OpenSpec.ofChange fnLettersSpec)

/-- ITS FALSE NEIGHBOUR: 'it returns false'. Refute it at one input. -/
def fnLettersWrong : ChangeSpec := { name := "fnLetters", fn := fun _ => fun
  | [d1, d2] => { results := [.lit (.bool false)], args := [d1, d2] }
  | _ => none }
def FnLettersWrongFalsely : Prop := fnLettersRow.holds Try.pinned (OpenSpec.ofChange fnLettersWrong)

/-- 'laws.FnExactLetterSpans': WHATEVER THE INPUT: true; the input reads as it did. -/
def fnExactLetterSpansSpec : ChangeSpec := { name := "fnExactLetterSpans", fn := fun _ => fun
  | [d1, d2] => { results := [.lit (.bool true)], args := [d1, d2] }
  | _ => none }
def fnExactLetterSpansRow : OpenClaim := { program := "ytledhlgfiekmgaa", sum := "342c7d939b44ec69f244662425d53cd7902ac95b5d7083dfac538d76f9561811", func := "loop.example/g00132/laws.FnExactLetterSpans", spec := "fnExactLetterSpans", apart := false }
def FnExactLetterSpansSaid : Prop := fnExactLetterSpansRow.holds Try.pinned (OpenSpec.ofChange fnExactLetterSpansSpec)

/-- ITS FALSE NEIGHBOUR: 'it returns false'. Refute it at one input. -/
def fnExactLetterSpansWrong : ChangeSpec := { name := "fnExactLetterSpans", fn := fun _ => fun
  | [d1, d2] => { results := [.lit (.bool false)], args := [d1, d2] }
  | _ => none }
def FnExactLetterSpansWrongFalsely : Prop := fnExactLetterSpansRow.holds Try.pinned (OpenSpec.ofChange fnExactLetterSpansWrong)

/-- 'laws.FnExactPlaceBehind': WHATEVER THE INPUT: true; the input reads as it did. -/
def fnExactPlaceBehindSpec : ChangeSpec := { name := "fnExactPlaceBehind", fn := fun _ => fun
  | [d1, d2, d3] => { results := [.lit (.bool true)], args := [d1, d2, d3] }
  | _ => none }
def fnExactPlaceBehindRow : OpenClaim := { program := "ytledhlgfiekmgaa", sum := "342c7d939b44ec69f244662425d53cd7902ac95b5d7083dfac538d76f9561811", func := "loop.example/g00132/laws.FnExactPlaceBehind", spec := "fnExactPlaceBehind", inPlace := ["internal/bytealg.CountString", "internal/bytealg.IndexByteString", "internal/bytealg.IndexString"], named := ["internal/bytealg.MaxLen"], apart := false }
def FnExactPlaceBehindSaid : Prop := fnExactPlaceBehindRow.holds Try.pinned (OpenSpec.ofChange fnExactPlaceBehindSpec)

/-- ITS FALSE NEIGHBOUR: 'it returns false'. Refute it at one input. -/
def fnExactPlaceBehindWrong : ChangeSpec := { name := "fnExactPlaceBehind", fn := fun _ => fun
  | [d1, d2, d3] => { results := [.lit (.bool false)], args := [d1, d2, d3] }
  | _ => none }
def FnExactPlaceBehindWrongFalsely : Prop := fnExactPlaceBehindRow.holds Try.pinned (OpenSpec.ofChange fnExactPlaceBehindWrong)

/-- 'laws.FnExactPlaceOf': WHATEVER THE INPUT: true; the input reads as it did. -/
def fnExactPlaceOfSpec : ChangeSpec := { name := "fnExactPlaceOf", fn := fun _ => fun
  | [d1, d2] => { results := [.lit (.bool true)], args := [d1, d2] }
  | _ => none }
def fnExactPlaceOfRow : OpenClaim := { program := "ytledhlgfiekmgaa", sum := "342c7d939b44ec69f244662425d53cd7902ac95b5d7083dfac538d76f9561811", func := "loop.example/g00132/laws.FnExactPlaceOf", spec := "fnExactPlaceOf", inPlace := ["internal/bytealg.CountString", "internal/bytealg.IndexByteString", "internal/bytealg.IndexString"], named := ["internal/bytealg.MaxLen"], apart := false }
def FnExactPlaceOfSaid : Prop := fnExactPlaceOfRow.holds Try.pinned (OpenSpec.ofChange fnExactPlaceOfSpec)

/-- ITS FALSE NEIGHBOUR: 'it returns false'. Refute it at one input. -/
def fnExactPlaceOfWrong : ChangeSpec := { name := "fnExactPlaceOf", fn := fun _ => fun
  | [d1, d2] => { results := [.lit (.bool false)], args := [d1, d2] }
  | _ => none }
def FnExactPlaceOfWrongFalsely : Prop := fnExactPlaceOfRow.holds Try.pinned (OpenSpec.ofChange fnExactPlaceOfWrong)

/-- 'laws.FnExactNfaOk': WHATEVER THE INPUT: true; the input reads as it did. -/
def fnExactNfaOkSpec : ChangeSpec := { name := "fnExactNfaOk", fn := fun _ => fun
  | [d] => { results := [.lit (.bool true)], args := [d] }
  | _ => none }
def fnExactNfaOkRow : OpenClaim := { program := "ytledhlgfiekmgaa", sum := "342c7d939b44ec69f244662425d53cd7902ac95b5d7083dfac538d76f9561811", func := "loop.example/g00132/laws.FnExactNfaOk", spec := "fnExactNfaOk", apart := false }
def FnExactNfaOkSaid : Prop := fnExactNfaOkRow.holds Try.pinned (OpenSpec.ofChange fnExactNfaOkSpec)

/-- ITS FALSE NEIGHBOUR: 'it returns false'. Refute it at one input. -/
def fnExactNfaOkWrong : ChangeSpec := { name := "fnExactNfaOk", fn := fun _ => fun
  | [d] => { results := [.lit (.bool false)], args := [d] }
  | _ => none }
def FnExactNfaOkWrongFalsely : Prop := fnExactNfaOkRow.holds Try.pinned (OpenSpec.ofChange fnExactNfaOkWrong)

/-- 'laws.FnExactBlocks': WHATEVER THE INPUT: true; the input reads as it did. -/
def fnExactBlocksSpec : ChangeSpec := { name := "fnExactBlocks", fn := fun _ => fun
  | [d] => { results := [.lit (.bool true)], args := [d] }
  | _ => none }
def fnExactBlocksRow : OpenClaim := { program := "ytledhlgfiekmgaa", sum := "342c7d939b44ec69f244662425d53cd7902ac95b5d7083dfac538d76f9561811", func := "loop.example/g00132/laws.FnExactBlocks", spec := "fnExactBlocks", apart := false }
def FnExactBlocksSaid : Prop := fnExactBlocksRow.holds Try.pinned (OpenSpec.ofChange fnExactBlocksSpec)

/-- ITS FALSE NEIGHBOUR: 'it returns false'. Refute it at one input. -/
def fnExactBlocksWrong : ChangeSpec := { name := "fnExactBlocks", fn := fun _ => fun
  | [d] => { results := [.lit (.bool false)], args := [d] }
  | _ => none }
def FnExactBlocksWrongFalsely : Prop := fnExactBlocksRow.holds Try.pinned (OpenSpec.ofChange fnExactBlocksWrong)

/- THE SECOND FORM. 'bulk': how many values and letters a reading holds, each counted each time it is reached (what is shared counts as often as it is met; a slice's spare places count too). A statement '..UptoSaid' is the law's where the arguments, and the package variables that the reading takes, are together of bulk at most 1048576: NARROWER than '..Said'. Prove '..Said' where nothing that the law and all that it calls make is longer than what came in: it says more and counts as full. Else prove '..UptoSaid'. A law counts once. -/
mutual
def uptoBulk {H : Type} : DataW H → Nat
  | .lit (.string bytes) => bytes.length + 1
  | .lit _ => 1
  | .nil => 1
  | .ptr d => uptoBulk d + 1
  | .slice elems spare => uptoBulkAll elems + uptoBulkAll spare + 1
  | .agg parts => uptoBulkAll parts + 1
  | .iface _ d => uptoBulk d + 1
  | .map entries => uptoBulkEntries entries + 1
  | .held _ => 1
def uptoBulkAll {H : Type} : List (DataW H) → Nat
  | [] => 0
  | d :: r => uptoBulk d + uptoBulkAll r
def uptoBulkEntries {H : Type} : List (Lit × DataW H) → Nat
  | [] => 0
  | x :: r => uptoBulkEntry x + uptoBulkEntries r
def uptoBulkEntry {H : Type} : Lit × DataW H → Nat
  | (.string bytes, d) => bytes.length + uptoBulk d + 1
  | (_, d) => uptoBulk d + 1
 end
def uptoSmall : (H : Type) → List (DataW H) → Bool := fun _ ds => decide (uptoBulkAll ds ≤ 1048576)
def OpenSpec.upto (s : _root_.Go.ChangeSpec) : _root_.Go.OpenSpec := { _root_.Go.OpenSpec.ofChange s with cond := some uptoSmall }

/-- 'laws.FnExactWordsOf', WHERE WHAT IT READS IS OF BULK AT MOST 1048576: true; the input reads as it did. -/
def fnExactWordsOfUptoRow : OpenClaim := { program := "ytledhlgfiekmgaa", sum := "342c7d939b44ec69f244662425d53cd7902ac95b5d7083dfac538d76f9561811", func := "loop.example/g00132/laws.FnExactWordsOf", spec := "fnExactWordsOf", unfollowed := true, recurses := true, apart := false, narrowed := true }
def FnExactWordsOfUptoSaid : Prop := fnExactWordsOfUptoRow.holds Try.pinned (OpenSpec.upto fnExactWordsOfSpec)

/-- 'laws.FnExactCovered', WHERE WHAT IT READS IS OF BULK AT MOST 1048576: true; the input reads as it did. -/
def fnExactCoveredUptoRow : OpenClaim := { program := "ytledhlgfiekmgaa", sum := "342c7d939b44ec69f244662425d53cd7902ac95b5d7083dfac538d76f9561811", func := "loop.example/g00132/laws.FnExactCovered", spec := "fnExactCovered", unfollowed := true, recurses := true, apart := false, narrowed := true }
def FnExactCoveredUptoSaid : Prop := fnExactCoveredUptoRow.holds Try.pinned (OpenSpec.upto fnExactCoveredSpec)

/-- 'laws.FnExactDfaMatch', WHERE WHAT IT READS IS OF BULK AT MOST 1048576: true; the input reads as it did. -/
def fnExactDfaMatchUptoRow : OpenClaim := { program := "ytledhlgfiekmgaa", sum := "342c7d939b44ec69f244662425d53cd7902ac95b5d7083dfac538d76f9561811", func := "loop.example/g00132/laws.FnExactDfaMatch", spec := "fnExactDfaMatch", unfollowed := true, recurses := true, apart := false, narrowed := true }
def FnExactDfaMatchUptoSaid : Prop := fnExactDfaMatchUptoRow.holds Try.pinned (OpenSpec.upto fnExactDfaMatchSpec)

/-- 'laws.FnExactSizeIn', WHERE WHAT IT READS IS OF BULK AT MOST 1048576: true; the input reads as it did. -/
def fnExactSizeInUptoRow : OpenClaim := { program := "ytledhlgfiekmgaa", sum := "342c7d939b44ec69f244662425d53cd7902ac95b5d7083dfac538d76f9561811", func := "loop.example/g00132/laws.FnExactSizeIn", spec := "fnExactSizeIn", unfollowed := true, recurses := true, apart := false, narrowed := true }
def FnExactSizeInUptoSaid : Prop := fnExactSizeInUptoRow.holds Try.pinned (OpenSpec.upto fnExactSizeInSpec)

/-- 'laws.FnExactNextIn', WHERE WHAT IT READS IS OF BULK AT MOST 1048576: true; the input reads as it did. -/
def fnExactNextInUptoRow : OpenClaim := { program := "ytledhlgfiekmgaa", sum := "342c7d939b44ec69f244662425d53cd7902ac95b5d7083dfac538d76f9561811", func := "loop.example/g00132/laws.FnExactNextIn", spec := "fnExactNextIn", unfollowed := true, recurses := true, apart := false, narrowed := true }
def FnExactNextInUptoSaid : Prop := fnExactNextInUptoRow.holds Try.pinned (OpenSpec.upto fnExactNextInSpec)

/-- 'laws.FnExactDfaLongest', WHERE WHAT IT READS IS OF BULK AT MOST 1048576: true; the input reads as it did. -/
def fnExactDfaLongestUptoRow : OpenClaim := { program := "ytledhlgfiekmgaa", sum := "342c7d939b44ec69f244662425d53cd7902ac95b5d7083dfac538d76f9561811", func := "loop.example/g00132/laws.FnExactDfaLongest", spec := "fnExactDfaLongest", unfollowed := true, recurses := true, apart := false, narrowed := true }
def FnExactDfaLongestUptoSaid : Prop := fnExactDfaLongestUptoRow.holds Try.pinned (OpenSpec.upto fnExactDfaLongestSpec)

/-- 'laws.FnLetters', WHERE WHAT IT READS IS OF BULK AT MOST 1048576: true; the input reads as it did. -/
def fnLettersUptoRow : OpenClaim := { program := "ytledhlgfiekmgaa", sum := "342c7d939b44ec69f244662425d53cd7902ac95b5d7083dfac538d76f9561811", func := "loop.example/g00132/laws.FnLetters", spec := "fnLetters", apart := false, narrowed := true }
def FnLettersUptoSaid : Prop := fnLettersUptoRow.holds Try.pinned (OpenSpec.upto fnLettersSpec)

/-- 'laws.FnExactLetterSpans', WHERE WHAT IT READS IS OF BULK AT MOST 1048576: true; the input reads as it did. -/
def fnExactLetterSpansUptoRow : OpenClaim := { program := "ytledhlgfiekmgaa", sum := "342c7d939b44ec69f244662425d53cd7902ac95b5d7083dfac538d76f9561811", func := "loop.example/g00132/laws.FnExactLetterSpans", spec := "fnExactLetterSpans", apart := false, narrowed := true }
def FnExactLetterSpansUptoSaid : Prop := fnExactLetterSpansUptoRow.holds Try.pinned (OpenSpec.upto fnExactLetterSpansSpec)

/-- 'laws.FnExactPlaceBehind', WHERE WHAT IT READS IS OF BULK AT MOST 1048576: true; the input reads as it did. -/
def fnExactPlaceBehindUptoRow : OpenClaim := { program := "ytledhlgfiekmgaa", sum := "342c7d939b44ec69f244662425d53cd7902ac95b5d7083dfac538d76f9561811", func := "loop.example/g00132/laws.FnExactPlaceBehind", spec := "fnExactPlaceBehind", inPlace := ["internal/bytealg.CountString", "internal/bytealg.IndexByteString", "internal/bytealg.IndexString"], named := ["internal/bytealg.MaxLen"], apart := false, narrowed := true }
def FnExactPlaceBehindUptoSaid : Prop := fnExactPlaceBehindUptoRow.holds Try.pinned (OpenSpec.upto fnExactPlaceBehindSpec)

/-- 'laws.FnExactPlaceOf', WHERE WHAT IT READS IS OF BULK AT MOST 1048576: true; the input reads as it did. -/
def fnExactPlaceOfUptoRow : OpenClaim := { program := "ytledhlgfiekmgaa", sum := "342c7d939b44ec69f244662425d53cd7902ac95b5d7083dfac538d76f9561811", func := "loop.example/g00132/laws.FnExactPlaceOf", spec := "fnExactPlaceOf", inPlace := ["internal/bytealg.CountString", "internal/bytealg.IndexByteString", "internal/bytealg.IndexString"], named := ["internal/bytealg.MaxLen"], apart := false, narrowed := true }
def FnExactPlaceOfUptoSaid : Prop := fnExactPlaceOfUptoRow.holds Try.pinned (OpenSpec.upto fnExactPlaceOfSpec)

/-- 'laws.FnExactNfaOk', WHERE WHAT IT READS IS OF BULK AT MOST 1048576: true; the input reads as it did. -/
def fnExactNfaOkUptoRow : OpenClaim := { program := "ytledhlgfiekmgaa", sum := "342c7d939b44ec69f244662425d53cd7902ac95b5d7083dfac538d76f9561811", func := "loop.example/g00132/laws.FnExactNfaOk", spec := "fnExactNfaOk", apart := false, narrowed := true }
def FnExactNfaOkUptoSaid : Prop := fnExactNfaOkUptoRow.holds Try.pinned (OpenSpec.upto fnExactNfaOkSpec)

/-- 'laws.FnExactBlocks', WHERE WHAT IT READS IS OF BULK AT MOST 1048576: true; the input reads as it did. -/
def fnExactBlocksUptoRow : OpenClaim := { program := "ytledhlgfiekmgaa", sum := "342c7d939b44ec69f244662425d53cd7902ac95b5d7083dfac538d76f9561811", func := "loop.example/g00132/laws.FnExactBlocks", spec := "fnExactBlocks", apart := false, narrowed := true }
def FnExactBlocksUptoSaid : Prop := fnExactBlocksUptoRow.holds Try.pinned (OpenSpec.upto fnExactBlocksSpec)

end Rows
end Go.Proofs.Ytledhlgfiekmgaa
