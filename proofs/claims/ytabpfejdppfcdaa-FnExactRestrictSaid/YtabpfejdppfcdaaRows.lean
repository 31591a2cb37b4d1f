/-
  No cell of these rows narrows 'for every input' (looked for: loops, veiled, ifaces, maps, wideKeys, modest, calm, conditions, laid).
  DERIVED. THE GIVEN ROWS OF THIS SEAT. 12 by the template 'for every input the law returns true; each argument reads behind the call as it read before'; 0 by the template 'total and deterministic' (their statements: YtabpfejdppfcdaaTotals.lean).
  GIVEN WITH THE SEED: the statements are not yours to turn. If you find one false, say at which input.
  Laid BY PROGRAM, IN A SANDBOX (cutbox-rows.mjs): the forced cells as the released guide's own fill.sh prints them over the translation b53aed2aaec9646d… (all of the seat's roots in one cut). By AI agents, Wed Nov 11 2026. No macro, syntax, notation, axiom, sorry.
-/
import Derived.Test.YtabpfejdppfcdaaChecked
import GoSem.Claim
import GoSem.ClaimJoined
import GoSem.ClaimMapViews
import Derived.JoinedTies
import Derived.KernelRfl
namespace Go.Proofs.Ytabpfejdppfcdaa
/- THE CELL 'sum', in the pinned program and in every row, IS THE sha256 OF THE DUMP (.gsa) THAT YtabpfejdppfcdaaProg.lean LOADS. Nothing in Lean hashes anything: it is a label: what it is worth is what the hold of that sum in a sandbox is worth. -/
noncomputable def Try.pinned : Pinned := { name := "ytabpfejdppfcdaa", sum := "b53aed2aaec9646d4a68b5d6b1ce655d7f54fe1a063d64815f96309f0aeb1b2e", checked := Try.checked }
namespace Rows
def none {H : Type} : Left H := { results := [], args := [] }

/-- 'laws.FnExactWordsOf': WHATEVER THE INPUT: true; the input reads as it did. -/
def fnExactWordsOfSpec : ChangeSpec := { name := "fnExactWordsOf", fn := fun _ => fun
  | [d] => { results := [.lit (.bool true)], args := [d] }
  | _ => none }
def fnExactWordsOfRow : OpenClaim := { program := "ytabpfejdppfcdaa", sum := "b53aed2aaec9646d4a68b5d6b1ce655d7f54fe1a063d64815f96309f0aeb1b2e", func := "loop.example/g00132/laws.FnExactWordsOf", spec := "fnExactWordsOf", unfollowed := true, recurses := true, apart := false }
def FnExactWordsOfSaid : Prop := fnExactWordsOfRow.holds Try.pinned (OpenSpec.ofChange fnExactWordsOfSpec)

/-- ITS FALSE NEIGHBOUR: 'it returns false'. Refute it at one input. -/
def fnExactWordsOfWrong : ChangeSpec := { name := "fnExactWordsOf", fn := fun _ => fun
  | [d] => { results := [.lit (.bool false)], args := [d] }
  | _ => none }
def FnExactWordsOfWrongFalsely : Prop := fnExactWordsOfRow.holds Try.pinned (OpenSpec.ofChange fnExactWordsOfWrong)

/-- 'laws.FnExactCovered': WHATEVER THE INPUT: true; the input reads as it did. -/
def fnExactCoveredSpec : ChangeSpec := { name := "fnExactCovered", fn := fun _ => fun
  | [d1, d2] => { results := [.lit (.bool true)], args := [d1, d2] }
  | _ => none }
def fnExactCoveredRow : OpenClaim := { program := "ytabpfejdppfcdaa", sum := "b53aed2aaec9646d4a68b5d6b1ce655d7f54fe1a063d64815f96309f0aeb1b2e", func := "loop.example/g00132/laws.FnExactCovered", spec := "fnExactCovered", unfollowed := true, recurses := true, apart := false }
def FnExactCoveredSaid : Prop := fnExactCoveredRow.holds Try.pinned (OpenSpec.ofChange fnExactCoveredSpec)

/-- ITS FALSE NEIGHBOUR: 'it returns false'. Refute it at one input. -/
def fnExactCoveredWrong : ChangeSpec := { name := "fnExactCovered", fn := fun _ => fun
  | [d1, d2] => { results := [.lit (.bool false)], args := [d1, d2] }
  | _ => none }
def FnExactCoveredWrongFalsely : Prop := fnExactCoveredRow.holds Try.pinned (OpenSpec.ofChange fnExactCoveredWrong)

/-- 'laws.FnLetters': WHATEVER THE INPUT: true; the input reads as it did. -/
def fnLettersSpec : ChangeSpec := { name := "fnLetters", fn := fun _ => fun
  | [d1, d2] => { results := [.lit (.bool true)], args := [d1, d2] }
  | _ => none }
def fnLettersRow : OpenClaim := { program := "ytabpfejdppfcdaa", sum := "b53aed2aaec9646d4a68b5d6b1ce655d7f54fe1a063d64815f96309f0aeb1b2e", func := "loop.example/g00132/laws.FnLetters", spec := "fnLetters", apart := false }
def FnLettersSaid : Prop := fnLettersRow.holds Try.pinned (OpenSpec.ofChange fnLettersSpec)

/-- ITS FALSE NEIGHBOUR: 'it returns false'. Refute it at one input. -/
def fnLettersWrong : ChangeSpec := { name := "fnLetters", fn := fun _ => fun
  | [d1, d2] => { results := [.lit (.bool false)], args := [d1, d2] }
  | _ => none }
def FnLettersWrongFalsely : Prop := fnLettersRow.holds Try.pinned (OpenSpec.ofChange fnLettersWrong)

/-- 'laws.FnExactLetterSpans': WHATEVER THE INPUT: true; the input reads as it did. -/
def fnExactLetterSpansSpec : ChangeSpec := { name := "fnExactLetterSpans", fn := fun _ => fun
  | [d1, d2] => { results := [.lit (.bool true)], args := [d1, d2] }
  | _ => none }
def fnExactLetterSpansRow : OpenClaim := { program := "ytabpfejdppfcdaa", sum := "b53aed2aaec9646d4a68b5d6b1ce655d7f54fe1a063d64815f96309f0aeb1b2e", func := "loop.example/g00132/laws.FnExactLetterSpans", spec := "fnExactLetterSpans", apart := false }
def FnExactLetterSpansSaid : Prop := fnExactLetterSpansRow.holds Try.pinned (OpenSpec.ofChange fnExactLetterSpansSpec)

/-- ITS FALSE NEIGHBOUR: 'it returns false'. Refute it at one input. -/
def fnExactLetterSpansWrong : ChangeSpec := { name := "fnExactLetterSpans", fn := fun _ => fun
  | [d1, d2] => { results := [.lit (.bool false)], args := [d1, d2] }
  | _ => none }
def FnExactLetterSpansWrongFalsely : Prop := fnExactLetterSpansRow.holds Try.pinned (OpenSpec.ofChange fnExactLetterSpansWrong)

/-- 'laws.FnExactDeadOf': WHATEVER THE INPUT: true; the input reads as it did. -/
def fnExactDeadOfSpec : ChangeSpec := { name := "fnExactDeadOf", fn := fun _ => fun
  | [d] => { results := [.lit (.bool true)], args := [d] }
  | _ => none }
def fnExactDeadOfRow : OpenClaim := { program := "ytabpfejdppfcdaa", sum := "b53aed2aaec9646d4a68b5d6b1ce655d7f54fe1a063d64815f96309f0aeb1b2e", func := "loop.example/g00132/laws.FnExactDeadOf", spec := "fnExactDeadOf", unfollowed := true, recurses := true, apart := false }
def FnExactDeadOfSaid : Prop := fnExactDeadOfRow.holds Try.pinned (OpenSpec.ofChange fnExactDeadOfSpec)

/-- ITS FALSE NEIGHBOUR: 'it returns false'. Refute it at one input. -/
def fnExactDeadOfWrong : ChangeSpec := { name := "fnExactDeadOf", fn := fun _ => fun
  | [d] => { results := [.lit (.bool false)], args := [d] }
  | _ => none }
def FnExactDeadOfWrongFalsely : Prop := fnExactDeadOfRow.holds Try.pinned (OpenSpec.ofChange fnExactDeadOfWrong)

/-- 'laws.FnExactRestrict': WHATEVER THE INPUT: true; the input reads as it did. -/
def fnExactRestrictSpec : ChangeSpec := { name := "fnExactRestrict", fn := fun _ => fun
  | [d1, d2] => { results := [.lit (.bool true)], args := [d1, d2] }
  | _ => none }
def fnExactRestrictRow : OpenClaim := { program := "ytabpfejdppfcdaa", sum := "b53aed2aaec9646d4a68b5d6b1ce655d7f54fe1a063d64815f96309f0aeb1b2e", func := "loop.example/g00132/laws.FnExactRestrict", spec := "fnExactRestrict", unfollowed := true, recurses := true, apart := false }
def FnExactRestrictSaid : Prop := fnExactRestrictRow.holds Try.pinned (OpenSpec.ofChange fnExactRestrictSpec)

/-- ITS FALSE NEIGHBOUR: 'it returns false'. Refute it at one input. -/
def fnExactRestrictWrong : ChangeSpec := { name := "fnExactRestrict", fn := fun _ => fun
  | [d1, d2] => { results := [.lit (.bool false)], args := [d1, d2] }
  | _ => none }
def FnExactRestrictWrongFalsely : Prop := fnExactRestrictRow.holds Try.pinned (OpenSpec.ofChange fnExactRestrictWrong)

/-- 'laws.FnExactRxOk': WHATEVER THE INPUT: true; the input reads as it did. -/
def fnExactRxOkSpec : ChangeSpec := { name := "fnExactRxOk", fn := fun _ => fun
  | [d] => { results := [.lit (.bool true)], args := [d] }
  | _ => none }
def fnExactRxOkRow : OpenClaim := { program := "ytabpfejdppfcdaa", sum := "b53aed2aaec9646d4a68b5d6b1ce655d7f54fe1a063d64815f96309f0aeb1b2e", func := "loop.example/g00132/laws.FnExactRxOk", spec := "fnExactRxOk", unfollowed := true, recurses := true, apart := false }
def FnExactRxOkSaid : Prop := fnExactRxOkRow.holds Try.pinned (OpenSpec.ofChange fnExactRxOkSpec)

/-- ITS FALSE NEIGHBOUR: 'it returns false'. Refute it at one input. -/
def fnExactRxOkWrong : ChangeSpec := { name := "fnExactRxOk", fn := fun _ => fun
  | [d] => { results := [.lit (.bool false)], args := [d] }
  | _ => none }
def FnExactRxOkWrongFalsely : Prop := fnExactRxOkRow.holds Try.pinned (OpenSpec.ofChange fnExactRxOkWrong)

/-- 'laws.FnExactUnpack': WHATEVER THE INPUT: true; the input reads as it did. -/
def fnExactUnpackSpec : ChangeSpec := { name := "fnExactUnpack", fn := fun _ => fun
  | [d] => { results := [.lit (.bool true)], args := [d] }
  | _ => none }
def fnExactUnpackRow : OpenClaim := { program := "ytabpfejdppfcdaa", sum := "b53aed2aaec9646d4a68b5d6b1ce655d7f54fe1a063d64815f96309f0aeb1b2e", func := "loop.example/g00132/laws.FnExactUnpack", spec := "fnExactUnpack", unfollowed := true, recurses := true, apart := false }
def FnExactUnpackSaid : Prop := fnExactUnpackRow.holds Try.pinned (OpenSpec.ofChange fnExactUnpackSpec)

/-- ITS FALSE NEIGHBOUR: 'it returns false'. Refute it at one input. -/
def fnExactUnpackWrong : ChangeSpec := { name := "fnExactUnpack", fn := fun _ => fun
  | [d] => { results := [.lit (.bool false)], args := [d] }
  | _ => none }
def FnExactUnpackWrongFalsely : Prop := fnExactUnpackRow.holds Try.pinned (OpenSpec.ofChange fnExactUnpackWrong)

/-- 'laws.FnExactEncodeTable': WHATEVER THE INPUT: true; the input reads as it did. -/
def fnExactEncodeTableSpec : ChangeSpec := { name := "fnExactEncodeTable", fn := fun _ => fun
  | [d] => { results := [.lit (.bool true)], args := [d] }
  | _ => none }
def fnExactEncodeTableRow : OpenClaim := { program := "ytabpfejdppfcdaa", sum := "b53aed2aaec9646d4a68b5d6b1ce655d7f54fe1a063d64815f96309f0aeb1b2e", func := "loop.example/g00132/laws.FnExactEncodeTable", spec := "fnExactEncodeTable", unfollowed := true, recurses := true, apart := false }
def FnExactEncodeTableSaid : Prop := fnExactEncodeTableRow.holds Try.pinned (OpenSpec.ofChange fnExactEncodeTableSpec)

/-- ITS FALSE NEIGHBOUR: 'it returns false'. Refute it at one input. -/
def fnExactEncodeTableWrong : ChangeSpec := { name := "fnExactEncodeTable", fn := fun _ => fun
  | [d] => { results := [.lit (.bool false)], args := [d] }
  | _ => none }
def FnExactEncodeTableWrongFalsely : Prop := fnExactEncodeTableRow.holds Try.pinned (OpenSpec.ofChange fnExactEncodeTableWrong)

/-- 'laws.FnExactModeAt': WHATEVER THE INPUT: true; the input reads as it did. -/
def fnExactModeAtSpec : ChangeSpec := { name := "fnExactModeAt", fn := fun _ => fun
  | [d1, d2] => { results := [.lit (.bool true)], args := [d1, d2] }
  | _ => none }
def fnExactModeAtRow : OpenClaim := { program := "ytabpfejdppfcdaa", sum := "b53aed2aaec9646d4a68b5d6b1ce655d7f54fe1a063d64815f96309f0aeb1b2e", func := "loop.example/g00132/laws.FnExactModeAt", spec := "fnExactModeAt", unfollowed := true, recurses := true, apart := false }
def FnExactModeAtSaid : Prop := fnExactModeAtRow.holds Try.pinned (OpenSpec.ofChange fnExactModeAtSpec)

/-- ITS FALSE NEIGHBOUR: 'it returns false'. Refute it at one input. -/
def fnExactModeAtWrong : ChangeSpec := { name := "fnExactModeAt", fn := fun _ => fun
  | [d1, d2] => { results := [.lit (.bool false)], args := [d1, d2] }
  | _ => none }
def FnExactModeAtWrongFalsely : Prop := fnExactModeAtRow.holds Try.pinned (OpenSpec.ofChange fnExactModeAtWrong)

/-- 'laws.FnBehind': WHATEVER THE INPUT: true; the input reads as it did. -/
def fnBehindSpec : ChangeSpec := { name := "fnBehind", fn := fun _ => fun
  | [d] => { results := [.lit (.bool true)], args := [d] }
  | _ => none }
def fnBehindRow : OpenClaim := { program := "ytabpfejdppfcdaa", sum := "b53aed2aaec9646d4a68b5d6b1ce655d7f54fe1a063d64815f96309f0aeb1b2e", func := "loop.example/g00132/laws.FnBehind", spec := "fnBehind", inPlace := ["internal/bytealg.CountString", "internal/bytealg.IndexByteString", "internal/bytealg.IndexString"], named := ["internal/bytealg.MaxLen"], apart := false }
def FnBehindSaid : Prop := fnBehindRow.holds Try.pinned (OpenSpec.ofChange fnBehindSpec)

/-- ITS FALSE NEIGHBOUR: 'it returns false'. Refute it at one input. -/
def fnBehindWrong : ChangeSpec := { name := "fnBehind", fn := fun _ => fun
  | [d] => { results := [.lit (.bool false)], args := [d] }
  | _ => none }
def FnBehindWrongFalsely : Prop := fnBehindRow.holds Try.pinned (OpenSpec.ofChange fnBehindWrong)

/-- 'laws.FnPlaces': WHATEVER THE INPUT: true; the input reads as it did. -/
def fnPlacesSpec : ChangeSpec := { name := "fnPlaces", fn := fun _ => fun
  | [d] => { results := [.lit (.bool true)], args := [d] }
  | _ => none }
def fnPlacesRow : OpenClaim := { program := "ytabpfejdppfcdaa", sum := "b53aed2aaec9646d4a68b5d6b1ce655d7f54fe1a063d64815f96309f0aeb1b2e", func := "loop.example/g00132/laws.FnPlaces", spec := "fnPlaces", inPlace := ["internal/bytealg.CountString", "internal/bytealg.IndexByteString", "internal/bytealg.IndexString"], named := ["internal/bytealg.MaxLen"], apart := false }
def FnPlacesSaid : Prop := fnPlacesRow.holds Try.pinned (OpenSpec.ofChange fnPlacesSpec)

/-- ITS FALSE NEIGHBOUR: 'it returns false'. Refute it at one input. -/
def fnPlacesWrong : ChangeSpec := { name := "fnPlaces", fn := fun _ => fun
  | [d] => { results := [.lit (.bool false)], args := [d] }
  | _ => none }
def FnPlacesWrongFalsely : Prop := fnPlacesRow.holds Try.pinned (OpenSpec.ofChange fnPlacesWrong)

/- THE SECOND FORM. 'bulk': how many values and letters a reading holds, each counted each time it is reached (what is shared counts as often as it is met; a slice's spare places count too). A statement '..UptoSaid' is the law's where the arguments, and the package variables that the reading takes, are together of bulk at most 1048576: NARROWER than '..Said'. Prove '..Said' where nothing that the law and all that it calls make is longer than what came in: it says more and counts as full. Else prove '..UptoSaid'. A law counts once. -/
mutual
def uptoBulk {H : Type} : DataW H → Nat
  | .lit (.string bytes) => bytes.length + 1
  | .lit _ => 1
  | .nil => 1
  | .ptr d => uptoBulk d + 1
  | .slice elems spare => uptoBulkAll elems + uptoBulkAll spare + 1
  | .agg parts => uptoBulkAll parts + 1
  | .iface _ d => uptoBulk d + 1
  | .map entries => uptoBulkEntries entries + 1
  | .held _ => 1
def uptoBulkAll {H : Type} : List (DataW H) → Nat
  | [] => 0
  | d :: r => uptoBulk d + uptoBulkAll r
def uptoBulkEntries {H : Type} : List (Lit × DataW H) → Nat
  | [] => 0
  | x :: r => uptoBulkEntry x + uptoBulkEntries r
def uptoBulkEntry {H : Type} : Lit × DataW H → Nat
  | (.string bytes, d) => bytes.length + uptoBulk d + 1
  | (_, d) => uptoBulk d + 1
 end
def uptoSmall : (H : Type) → List (DataW H) → Bool := fun _ ds => decide (uptoBulkAll ds ≤ 1048576)
def OpenSpec.upto (s : _root_.Go.ChangeSpec) : _root_.Go.OpenSpec := { _root_.Go.OpenSpec.ofChange s with cond := some uptoSmall }

/-- 'laws.FnExactWordsOf', WHERE WHAT IT READS IS OF BULK AT MOST 1048576: true; the input reads as it did. -/
def fnExactWordsOfUptoRow : OpenClaim := { program := "ytabpfejdppfcdaa", sum := "b53aed2aaec9646d4a68b5d6b1ce655d7f54fe1a063d64815f96309f0aeb1b2e", func := "loop.example/g00132/laws.FnExactWordsOf", spec := "fnExactWordsOf", unfollowed := true, recurses := true, apart := false, narrowed := true }
def FnExactWordsOfUptoSaid : Prop := fnExactWordsOfUptoRow.holds Try.pinned (OpenSpec.upto fnExactWordsOfSpec)

/-- 'laws.FnExactCovered', WHERE WHAT IT READS IS OF BULK AT MOST 1048576: true; the input reads as it did. -/
def fnExactCoveredUptoRow : OpenClaim := { program := "ytabpfejdppfcdaa", sum := "b53aed2aaec9646d4a68b5d6b1ce655d7f54fe1a063d64815f96309f0aeb1b2e", func := "loop.example/g00132/laws.FnExactCovered", spec := "fnExactCovered", unfollowed := true, recurses := true, apart := false, narrowed := true }
def FnExactCoveredUptoSaid : Prop := fnExactCoveredUptoRow.holds Try.pinned (OpenSpec.upto fnExactCoveredSpec)

/-- 'laws.FnLetters', WHERE WHAT IT READS IS OF BULK AT MOST 1048576: true; the input reads as it did. -/
def fnLettersUptoRow : OpenClaim := { program := "ytabpfejdppfcdaa", sum := "b53aed2aaec9646d4a68b5d6b1ce655d7f54fe1a063d64815f96309f0aeb1b2e", func := "loop.example/g00132/laws.FnLetters", spec := "fnLetters", apart := false, narrowed := true }
def FnLettersUptoSaid : Prop := fnLettersUptoRow.holds Try.pinned (OpenSpec.upto fnLettersSpec)

/-- 'laws.FnExactLetterSpans', WHERE WHAT IT READS IS OF BULK AT MOST 1048576: true; the input reads as it did. -/
def fnExactLetterSpansUptoRow : OpenClaim := { program := "ytabpfejdppfcdaa", sum := "b53aed2aaec9646d4a68b5d6b1ce655d7f54fe1a063d64815f96309f0aeb1b2e", func := "loop.example/g00132/laws.FnExactLetterSpans", spec := "fnExactLetterSpans", apart := false, narrowed := true }
def FnExactLetterSpansUptoSaid : Prop := fnExactLetterSpansUptoRow.holds Try.pinned (OpenSpec.upto fnExactLetterSpansSpec)

/-- 'laws.FnExactDeadOf', WHERE WHAT IT READS IS OF BULK AT MOST 1048576: true; the input reads as it did. -/
def fnExactDeadOfUptoRow : OpenClaim := { program := "ytabpfejdppfcdaa", sum := "b53aed2aaec9646d4a68b5d6b1ce655d7f54fe1a063d64815f96309f0aeb1b2e", func := "loop.example/g00132/laws.FnExactDeadOf", spec := "fnExactDeadOf", unfollowed := true, recurses := true, apart := false, narrowed := true }
def FnExactDeadOfUptoSaid : Prop := fnExactDeadOfUptoRow.holds Try.pinned (OpenSpec.upto fnExactDeadOfSpec)

/-- 'laws.FnExactRestrict', WHERE WHAT IT READS IS OF BULK AT MOST 1048576: true; the input reads as it did. -/
def fnExactRestrictUptoRow : OpenClaim := { program := "ytabpfejdppfcdaa", sum := "b53aed2aaec9646d4a68b5d6b1ce655d7f54fe1a063d64815f96309f0aeb1b2e", func := "loop.example/g00132/laws.FnExactRestrict", spec := "fnExactRestrict", unfollowed := true, recurses := true, apart := false, narrowed := true }
def FnExactRestrictUptoSaid : Prop := fnExactRestrictUptoRow.holds Try.pinned (OpenSpec.upto fnExactRestrictSpec)

/-- 'laws.FnExactRxOk', WHERE WHAT IT READS IS OF BULK AT MOST 1048576: true; the input reads as it did. -/
def fnExactRxOkUptoRow : OpenClaim := { program := "ytabpfejdppfcdaa", sum := "b53aed2aaec9646d4a68b5d6b1ce655d7f54fe1a063d64815f96309f0aeb1b2e", func := "loop.example/g00132/laws.FnExactRxOk", spec := "fnExactRxOk", unfollowed := true, recurses := true, apart := false, narrowed := true }
def FnExactRxOkUptoSaid : Prop := fnExactRxOkUptoRow.holds Try.pinned (OpenSpec.upto fnExactRxOkSpec)

/-- 'laws.FnExactUnpack', WHERE WHAT IT READS IS OF BULK AT MOST 1048576: true; the input reads as it did. -/
def fnExactUnpackUptoRow : OpenClaim := { program := "ytabpfejdppfcdaa", sum := "b53aed2aaec9646d4a68b5d6b1ce655d7f54fe1a063d64815f96309f0aeb1b2e", func := "loop.example/g00132/laws.FnExactUnpack", spec := "fnExactUnpack", unfollowed := true, recurses := true, apart := false, narrowed := true }
def FnExactUnpackUptoSaid : Prop := fnExactUnpackUptoRow.holds Try.pinned (OpenSpec.upto fnExactUnpackSpec)

/-- 'laws.FnExactEncodeTable', WHERE WHAT IT READS IS OF BULK AT MOST 1048576: true; the input reads as it did. -/
def fnExactEncodeTableUptoRow : OpenClaim := { program := "ytabpfejdppfcdaa", sum := "b53aed2aaec9646d4a68b5d6b1ce655d7f54fe1a063d64815f96309f0aeb1b2e", func := "loop.example/g00132/laws.FnExactEncodeTable", spec := "fnExactEncodeTable", unfollowed := true, recurses := true, apart := false, narrowed := true }
def FnExactEncodeTableUptoSaid : Prop := fnExactEncodeTableUptoRow.holds Try.pinned (OpenSpec.upto fnExactEncodeTableSpec)

/-- 'laws.FnExactModeAt', WHERE WHAT IT READS IS OF BULK AT MOST 1048576: true; the input reads as it did. -/
def fnExactModeAtUptoRow : OpenClaim := { program := "ytabpfejdppfcdaa", sum := "b53aed2aaec9646d4a68b5d6b1ce655d7f54fe1a063d64815f96309f0aeb1b2e", func := "loop.example/g00132/laws.FnExactModeAt", spec := "fnExactModeAt", unfollowed := true, recurses := true, apart := false, narrowed := true }
def FnExactModeAtUptoSaid : Prop := fnExactModeAtUptoRow.holds Try.pinned (OpenSpec.upto fnExactModeAtSpec)

/-- 'laws.FnBehind', WHERE WHAT IT READS IS OF BULK AT MOST 1048576: true; the input reads as it did. -/
def fnBehindUptoRow : OpenClaim := { program := "ytabpfejdppfcdaa", sum := "b53aed2aaec9646d4a68b5d6b1ce655d7f54fe1a063d64815f96309f0aeb1b2e", func := "loop.example/g00132/laws.FnBehind", spec := "fnBehind", inPlace := ["internal/bytealg.CountString", "internal/bytealg.IndexByteString", "internal/bytealg.IndexString"], named := ["internal/bytealg.MaxLen"], apart := false, narrowed := true }
def FnBehindUptoSaid : Prop := fnBehindUptoRow.holds Try.pinned (OpenSpec.upto fnBehindSpec)

/-- 'laws.FnPlaces', WHERE WHAT IT READS IS OF BULK AT MOST 1048576: true; the input reads as it did. -/
def fnPlacesUptoRow : OpenClaim := { program := "ytabpfejdppfcdaa", sum := "b53aed2aaec9646d4a68b5d6b1ce655d7f54fe1a063d64815f96309f0aeb1b2e", func := "loop.example/g00132/laws.FnPlaces", spec := "fnPlaces", inPlace := ["internal/bytealg.CountString", "internal/bytealg.IndexByteString", "internal/bytealg.IndexString"], named := ["internal/bytealg.MaxLen"], apart := false, narrowed := true }
def FnPlacesUptoSaid : Prop := fnPlacesUptoRow.holds Try.pinned (OpenSpec.upto fnPlacesSpec)

end Rows
end Go.Proofs.Ytabpfejdppfcdaa
