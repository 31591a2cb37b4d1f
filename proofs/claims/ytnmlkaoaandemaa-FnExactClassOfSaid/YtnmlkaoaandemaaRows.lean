/-
  No cell of these rows narrows 'for every input' (looked for: loops, veiled, ifaces, maps, wideKeys, modest, calm, conditions, laid).
  DERIVED. THE GIVEN ROWS OF THIS SEAT. 12 by the template 'for every input the law returns true; each argument reads behind the call as it read before'; 0 by the template 'total and deterministic' (their statements: YtnmlkaoaandemaaTotals.lean).
  GIVEN WITH THE SEED: the statements are not yours to turn. If you find one false, say at which input.
  Laid BY PROGRAM, IN A SANDBOX (cutbox-rows.mjs): the forced cells as the released guide's own fill.sh prints them over the translation c25087faa8d53701… (all of the seat's roots in one cut). By AI agents, Wed Nov 11 2026. No macro, syntax, notation, axiom, sorry.
-/
import Derived.Test.YtnmlkaoaandemaaChecked
import GoSem.Claim
import GoSem.ClaimJoined
import GoSem.ClaimMapViews
import Derived.JoinedTies
import Derived.KernelRfl
namespace Go.Proofs.Ytnmlkaoaandemaa
/- THE CELL 'sum', in the pinned program and in every row, IS THE sha256 OF THE DUMP (.gsa) THAT YtnmlkaoaandemaaProg.lean LOADS. Nothing in Lean hashes anything: it is a label: what it is worth is what the hold of that sum in a sandbox is worth. -/
noncomputable def Try.pinned : Pinned := { name := "ytnmlkaoaandemaa", sum := "c25087faa8d53701849a2fa2f4db43ed552403a4f1ca6f8d1b2b4adc76f09adb", checked := Try.checked }
namespace Rows
def none {H : Type} : Left H := { results := [], args := [] }

/-- 'laws.FnExactConstants': WHATEVER THE INPUT: true; the input reads as it did. -/
def fnExactConstantsSpec : ChangeSpec := { name := "fnExactConstants", fn := fun _ => fun
  | [] => { results := [.lit (.bool true)], args := [] }
  | _ => none }
def fnExactConstantsRow : OpenClaim := { program := "ytnmlkaoaandemaa", sum := "c25087faa8d53701849a2fa2f4db43ed552403a4f1ca6f8d1b2b4adc76f09adb", func := "loop.example/g00132/laws.FnExactConstants", spec := "fnExactConstants", apart := false }
def FnExactConstantsSaid : Prop := fnExactConstantsRow.holds Try.pinned (OpenSpec.ofChange fnExactConstantsSpec)

/-- ITS FALSE NEIGHBOUR: 'it returns false'. Refute it at one input. -/
def fnExactConstantsWrong : ChangeSpec := { name := "fnExactConstants", fn := fun _ => fun
  | [] => { results := [.lit (.bool false)], args := [] }
  | _ => none }
def FnExactConstantsWrongFalsely : Prop := fnExactConstantsRow.holds Try.pinned (OpenSpec.ofChange fnExactConstantsWrong)

/-- 'laws.FnExactHashOf': WHATEVER THE INPUT: true; the input reads as it did. -/
def fnExactHashOfSpec : ChangeSpec := { name := "fnExactHashOf", fn := fun _ => fun
  | [d1, d2, d3] => { results := [.lit (.bool true)], args := [d1, d2, d3] }
  | _ => none }
def fnExactHashOfRow : OpenClaim := { program := "ytnmlkaoaandemaa", sum := "c25087faa8d53701849a2fa2f4db43ed552403a4f1ca6f8d1b2b4adc76f09adb", func := "loop.example/g00132/laws.FnExactHashOf", spec := "fnExactHashOf", apart := false }
def FnExactHashOfSaid : Prop := fnExactHashOfRow.holds Try.pinned (OpenSpec.ofChange fnExactHashOfSpec)

/-- ITS FALSE NEIGHBOUR: 'it returns false'. Refute it at one input. -/
def fnExactHashOfWrong : ChangeSpec := { name := "fnExactHashOf", fn := fun _ => fun
  | [d1, d2, d3] => { results := [.lit (.bool false)], args := [d1, d2, d3] }
  | _ => none }
def FnExactHashOfWrongFalsely : Prop := fnExactHashOfRow.holds Try.pinned (OpenSpec.ofChange fnExactHashOfWrong)

/-- 'laws.FnExactLetterBytes': WHATEVER THE INPUT: true; the input reads as it did. -/
def fnExactLetterBytesSpec : ChangeSpec := { name := "fnExactLetterBytes", fn := fun _ => fun
  | [d] => { results := [.lit (.bool true)], args := [d] }
  | _ => none }
def fnExactLetterBytesRow : OpenClaim := { program := "ytnmlkaoaandemaa", sum := "c25087faa8d53701849a2fa2f4db43ed552403a4f1ca6f8d1b2b4adc76f09adb", func := "loop.example/g00132/laws.FnExactLetterBytes", spec := "fnExactLetterBytes", apart := false }
def FnExactLetterBytesSaid : Prop := fnExactLetterBytesRow.holds Try.pinned (OpenSpec.ofChange fnExactLetterBytesSpec)

/-- ITS FALSE NEIGHBOUR: 'it returns false'. Refute it at one input. -/
def fnExactLetterBytesWrong : ChangeSpec := { name := "fnExactLetterBytes", fn := fun _ => fun
  | [d] => { results := [.lit (.bool false)], args := [d] }
  | _ => none }
def FnExactLetterBytesWrongFalsely : Prop := fnExactLetterBytesRow.holds Try.pinned (OpenSpec.ofChange fnExactLetterBytesWrong)

/-- 'laws.FnExactLineStarts': WHATEVER THE INPUT: true; the input reads as it did. -/
def fnExactLineStartsSpec : ChangeSpec := { name := "fnExactLineStarts", fn := fun _ => fun
  | [d] => { results := [.lit (.bool true)], args := [d] }
  | _ => none }
def fnExactLineStartsRow : OpenClaim := { program := "ytnmlkaoaandemaa", sum := "c25087faa8d53701849a2fa2f4db43ed552403a4f1ca6f8d1b2b4adc76f09adb", func := "loop.example/g00132/laws.FnExactLineStarts", spec := "fnExactLineStarts", apart := false }
def FnExactLineStartsSaid : Prop := fnExactLineStartsRow.holds Try.pinned (OpenSpec.ofChange fnExactLineStartsSpec)

/-- ITS FALSE NEIGHBOUR: 'it returns false'. Refute it at one input. -/
def fnExactLineStartsWrong : ChangeSpec := { name := "fnExactLineStarts", fn := fun _ => fun
  | [d] => { results := [.lit (.bool false)], args := [d] }
  | _ => none }
def FnExactLineStartsWrongFalsely : Prop := fnExactLineStartsRow.holds Try.pinned (OpenSpec.ofChange fnExactLineStartsWrong)

/-- 'laws.FnExactClassOk': WHATEVER THE INPUT: true; the input reads as it did. -/
def fnExactClassOkSpec : ChangeSpec := { name := "fnExactClassOk", fn := fun _ => fun
  | [d] => { results := [.lit (.bool true)], args := [d] }
  | _ => none }
def fnExactClassOkRow : OpenClaim := { program := "ytnmlkaoaandemaa", sum := "c25087faa8d53701849a2fa2f4db43ed552403a4f1ca6f8d1b2b4adc76f09adb", func := "loop.example/g00132/laws.FnExactClassOk", spec := "fnExactClassOk", apart := false }
def FnExactClassOkSaid : Prop := fnExactClassOkRow.holds Try.pinned (OpenSpec.ofChange fnExactClassOkSpec)

/-- ITS FALSE NEIGHBOUR: 'it returns false'. Refute it at one input. -/
def fnExactClassOkWrong : ChangeSpec := { name := "fnExactClassOk", fn := fun _ => fun
  | [d] => { results := [.lit (.bool false)], args := [d] }
  | _ => none }
def FnExactClassOkWrongFalsely : Prop := fnExactClassOkRow.holds Try.pinned (OpenSpec.ofChange fnExactClassOkWrong)

/-- 'laws.FnExactLineOf': WHATEVER THE INPUT: true; the input reads as it did. -/
def fnExactLineOfSpec : ChangeSpec := { name := "fnExactLineOf", fn := fun _ => fun
  | [d1, d2] => { results := [.lit (.bool true)], args := [d1, d2] }
  | _ => none }
def fnExactLineOfRow : OpenClaim := { program := "ytnmlkaoaandemaa", sum := "c25087faa8d53701849a2fa2f4db43ed552403a4f1ca6f8d1b2b4adc76f09adb", func := "loop.example/g00132/laws.FnExactLineOf", spec := "fnExactLineOf", apart := false }
def FnExactLineOfSaid : Prop := fnExactLineOfRow.holds Try.pinned (OpenSpec.ofChange fnExactLineOfSpec)

/-- ITS FALSE NEIGHBOUR: 'it returns false'. Refute it at one input. -/
def fnExactLineOfWrong : ChangeSpec := { name := "fnExactLineOf", fn := fun _ => fun
  | [d1, d2] => { results := [.lit (.bool false)], args := [d1, d2] }
  | _ => none }
def FnExactLineOfWrongFalsely : Prop := fnExactLineOfRow.holds Try.pinned (OpenSpec.ofChange fnExactLineOfWrong)

/-- 'laws.FnExactOpen': WHATEVER THE INPUT: true; the input reads as it did. -/
def fnExactOpenSpec : ChangeSpec := { name := "fnExactOpen", fn := fun _ => fun
  | [] => { results := [.lit (.bool true)], args := [] }
  | _ => none }
def fnExactOpenRow : OpenClaim := { program := "ytnmlkaoaandemaa", sum := "c25087faa8d53701849a2fa2f4db43ed552403a4f1ca6f8d1b2b4adc76f09adb", func := "loop.example/g00132/laws.FnExactOpen", spec := "fnExactOpen", apart := false }
def FnExactOpenSaid : Prop := fnExactOpenRow.holds Try.pinned (OpenSpec.ofChange fnExactOpenSpec)

/-- ITS FALSE NEIGHBOUR: 'it returns false'. Refute it at one input. -/
def fnExactOpenWrong : ChangeSpec := { name := "fnExactOpen", fn := fun _ => fun
  | [] => { results := [.lit (.bool false)], args := [] }
  | _ => none }
def FnExactOpenWrongFalsely : Prop := fnExactOpenRow.holds Try.pinned (OpenSpec.ofChange fnExactOpenWrong)

/-- 'laws.FnRows': WHATEVER THE INPUT: true; the input reads as it did. -/
def fnRowsSpec : ChangeSpec := { name := "fnRows", fn := fun _ => fun
  | [d1, d2] => { results := [.lit (.bool true)], args := [d1, d2] }
  | _ => none }
def fnRowsRow : OpenClaim := { program := "ytnmlkaoaandemaa", sum := "c25087faa8d53701849a2fa2f4db43ed552403a4f1ca6f8d1b2b4adc76f09adb", func := "loop.example/g00132/laws.FnRows", spec := "fnRows", apart := false }
def FnRowsSaid : Prop := fnRowsRow.holds Try.pinned (OpenSpec.ofChange fnRowsSpec)

/-- ITS FALSE NEIGHBOUR: 'it returns false'. Refute it at one input. -/
def fnRowsWrong : ChangeSpec := { name := "fnRows", fn := fun _ => fun
  | [d1, d2] => { results := [.lit (.bool false)], args := [d1, d2] }
  | _ => none }
def FnRowsWrongFalsely : Prop := fnRowsRow.holds Try.pinned (OpenSpec.ofChange fnRowsWrong)

/-- 'laws.FnExactOffsetOf': WHATEVER THE INPUT: true; the input reads as it did. -/
def fnExactOffsetOfSpec : ChangeSpec := { name := "fnExactOffsetOf", fn := fun _ => fun
  | [d1, d2, d3] => { results := [.lit (.bool true)], args := [d1, d2, d3] }
  | _ => none }
def fnExactOffsetOfRow : OpenClaim := { program := "ytnmlkaoaandemaa", sum := "c25087faa8d53701849a2fa2f4db43ed552403a4f1ca6f8d1b2b4adc76f09adb", func := "loop.example/g00132/laws.FnExactOffsetOf", spec := "fnExactOffsetOf", apart := false }
def FnExactOffsetOfSaid : Prop := fnExactOffsetOfRow.holds Try.pinned (OpenSpec.ofChange fnExactOffsetOfSpec)

/-- ITS FALSE NEIGHBOUR: 'it returns false'. Refute it at one input. -/
def fnExactOffsetOfWrong : ChangeSpec := { name := "fnExactOffsetOf", fn := fun _ => fun
  | [d1, d2, d3] => { results := [.lit (.bool false)], args := [d1, d2, d3] }
  | _ => none }
def FnExactOffsetOfWrongFalsely : Prop := fnExactOffsetOfRow.holds Try.pinned (OpenSpec.ofChange fnExactOffsetOfWrong)

/-- 'laws.FnExactCountOf': WHATEVER THE INPUT: true; the input reads as it did. -/
def fnExactCountOfSpec : ChangeSpec := { name := "fnExactCountOf", fn := fun _ => fun
  | [d] => { results := [.lit (.bool true)], args := [d] }
  | _ => none }
def fnExactCountOfRow : OpenClaim := { program := "ytnmlkaoaandemaa", sum := "c25087faa8d53701849a2fa2f4db43ed552403a4f1ca6f8d1b2b4adc76f09adb", func := "loop.example/g00132/laws.FnExactCountOf", spec := "fnExactCountOf", apart := false }
def FnExactCountOfSaid : Prop := fnExactCountOfRow.holds Try.pinned (OpenSpec.ofChange fnExactCountOfSpec)

/-- ITS FALSE NEIGHBOUR: 'it returns false'. Refute it at one input. -/
def fnExactCountOfWrong : ChangeSpec := { name := "fnExactCountOf", fn := fun _ => fun
  | [d] => { results := [.lit (.bool false)], args := [d] }
  | _ => none }
def FnExactCountOfWrongFalsely : Prop := fnExactCountOfRow.holds Try.pinned (OpenSpec.ofChange fnExactCountOfWrong)

/-- 'laws.FnExactClassHas': WHATEVER THE INPUT: true; the input reads as it did. -/
def fnExactClassHasSpec : ChangeSpec := { name := "fnExactClassHas", fn := fun _ => fun
  | [d1, d2] => { results := [.lit (.bool true)], args := [d1, d2] }
  | _ => none }
def fnExactClassHasRow : OpenClaim := { program := "ytnmlkaoaandemaa", sum := "c25087faa8d53701849a2fa2f4db43ed552403a4f1ca6f8d1b2b4adc76f09adb", func := "loop.example/g00132/laws.FnExactClassHas", spec := "fnExactClassHas", apart := false }
def FnExactClassHasSaid : Prop := fnExactClassHasRow.holds Try.pinned (OpenSpec.ofChange fnExactClassHasSpec)

/-- ITS FALSE NEIGHBOUR: 'it returns false'. Refute it at one input. -/
def fnExactClassHasWrong : ChangeSpec := { name := "fnExactClassHas", fn := fun _ => fun
  | [d1, d2] => { results := [.lit (.bool false)], args := [d1, d2] }
  | _ => none }
def FnExactClassHasWrongFalsely : Prop := fnExactClassHasRow.holds Try.pinned (OpenSpec.ofChange fnExactClassHasWrong)

/-- 'laws.FnExactClassOf': WHATEVER THE INPUT: true; the input reads as it did. -/
def fnExactClassOfSpec : ChangeSpec := { name := "fnExactClassOf", fn := fun _ => fun
  | [d] => { results := [.lit (.bool true)], args := [d] }
  | _ => none }
def fnExactClassOfRow : OpenClaim := { program := "ytnmlkaoaandemaa", sum := "c25087faa8d53701849a2fa2f4db43ed552403a4f1ca6f8d1b2b4adc76f09adb", func := "loop.example/g00132/laws.FnExactClassOf", spec := "fnExactClassOf", apart := false }
def FnExactClassOfSaid : Prop := fnExactClassOfRow.holds Try.pinned (OpenSpec.ofChange fnExactClassOfSpec)

/-- ITS FALSE NEIGHBOUR: 'it returns false'. Refute it at one input. -/
def fnExactClassOfWrong : ChangeSpec := { name := "fnExactClassOf", fn := fun _ => fun
  | [d] => { results := [.lit (.bool false)], args := [d] }
  | _ => none }
def FnExactClassOfWrongFalsely : Prop := fnExactClassOfRow.holds Try.pinned (OpenSpec.ofChange fnExactClassOfWrong)

/- THE SECOND FORM. 'bulk': how many values and letters a reading holds, each counted each time it is reached (what is shared counts as often as it is met; a slice's spare places count too). A statement '..UptoSaid' is the law's where the arguments, and the package variables that the reading takes, are together of bulk at most 1048576: NARROWER than '..Said'. Prove '..Said' where nothing that the law and all that it calls make is longer than what came in: it says more and counts as full. Else prove '..UptoSaid'. A law counts once. -/
mutual
def uptoBulk {H : Type} : DataW H → Nat
  | .lit (.string bytes) => bytes.length + 1
  | .lit _ => 1
  | .nil => 1
  | .ptr d => uptoBulk d + 1
  | .slice elems spare => uptoBulkAll elems + uptoBulkAll spare + 1
  | .agg parts => uptoBulkAll parts + 1
  | .iface _ d => uptoBulk d + 1
  | .map entries => uptoBulkEntries entries + 1
  | .held _ => 1
def uptoBulkAll {H : Type} : List (DataW H) → Nat
  | [] => 0
  | d :: r => uptoBulk d + uptoBulkAll r
def uptoBulkEntries {H : Type} : List (Lit × DataW H) → Nat
  | [] => 0
  | x :: r => uptoBulkEntry x + uptoBulkEntries r
def uptoBulkEntry {H : Type} : Lit × DataW H → Nat
  | (.string bytes, d) => bytes.length + uptoBulk d + 1
  | (_, d) => uptoBulk d + 1
 end
def uptoSmall : (H : Type) → List (DataW H) → Bool := fun _ ds => decide (uptoBulkAll ds ≤ 1048576)
def OpenSpec.upto (s : _root_.Go.ChangeSpec) : _root_.Go.OpenSpec := { _root_.Go.OpenSpec.ofChange s with cond := some uptoSmall }

/-- 'laws.FnExactConstants', WHERE WHAT IT READS IS OF BULK AT MOST 1048576: true; the input reads as it did. -/
def fnExactConstantsUptoRow : OpenClaim := { program := "ytnmlkaoaandemaa", sum := "c25087faa8d53701849a2fa2f4db43ed552403a4f1ca6f8d1b2b4adc76f09adb", func := "loop.example/g00132/laws.FnExactConstants", spec := "fnExactConstants", apart := false, narrowed := true }
def FnExactConstantsUptoSaid : Prop := fnExactConstantsUptoRow.holds Try.pinned (OpenSpec.upto fnExactConstantsSpec)

/-- 'laws.FnExactHashOf', WHERE WHAT IT READS IS OF BULK AT MOST 1048576: true; the input reads as it did. -/
def fnExactHashOfUptoRow : OpenClaim := { program := "ytnmlkaoaandemaa", sum := "c25087faa8d53701849a2fa2f4db43ed552403a4f1ca6f8d1b2b4adc76f09adb", func := "loop.example/g00132/laws.FnExactHashOf", spec := "fnExactHashOf", apart := false, narrowed := true }
def FnExactHashOfUptoSaid : Prop := fnExactHashOfUptoRow.holds Try.pinned (OpenSpec.upto fnExactHashOfSpec)

/-- 'laws.FnExactLetterBytes', WHERE WHAT IT READS IS OF BULK AT MOST 1048576: true; the input reads as it did. -/
def fnExactLetterBytesUptoRow : OpenClaim := { program := "ytnmlkaoaandemaa", sum := "c25087faa8d53701849a2fa2f4db43ed552403a4f1ca6f8d1b2b4adc76f09adb", func := "loop.example/g00132/laws.FnExactLetterBytes", spec := "fnExactLetterBytes", apart := false, narrowed := true }
def FnExactLetterBytesUptoSaid : Prop := fnExactLetterBytesUptoRow.holds Try.pinned (OpenSpec.upto fnExactLetterBytesSpec)

/-- 'laws.FnExactLineStarts', WHERE WHAT IT READS IS OF BULK AT MOST 1048576: true; the input reads as it did. -/
def fnExactLineStartsUptoRow : OpenClaim := { program := "ytnmlkaoaandemaa", sum := "c25087faa8d53701849a2fa2f4db43ed552403a4f1ca6f8d1b2b4adc76f09adb", func := "loop.example/g00132/laws.FnExactLineStarts", spec := "fnExactLineStarts", apart := false, narrowed := true }
def FnExactLineStartsUptoSaid : Prop := fnExactLineStartsUptoRow.holds Try.pinned (OpenSpec.upto fnExactLineStartsSpec)

/-- 'laws.FnExactClassOk', WHERE WHAT IT READS IS OF BULK AT MOST 1048576: true; the input reads as it did. -/
def fnExactClassOkUptoRow : OpenClaim := { program := "ytnmlkaoaandemaa", sum := "c25087faa8d53701849a2fa2f4db43ed552403a4f1ca6f8d1b2b4adc76f09adb", func := "loop.example/g00132/laws.FnExactClassOk", spec := "fnExactClassOk", apart := false, narrowed := true }
def FnExactClassOkUptoSaid : Prop := fnExactClassOkUptoRow.holds Try.pinned (OpenSpec.upto fnExactClassOkSpec)

/-- 'laws.FnExactLineOf', WHERE WHAT IT READS IS OF BULK AT MOST 1048576: true; the input reads as it did. -/
def fnExactLineOfUptoRow : OpenClaim := { program := "ytnmlkaoaandemaa", sum := "c25087faa8d53701849a2fa2f4db43ed552403a4f1ca6f8d1b2b4adc76f09adb", func := "loop.example/g00132/laws.FnExactLineOf", spec := "fnExactLineOf", apart := false, narrowed := true }
def FnExactLineOfUptoSaid : Prop := fnExactLineOfUptoRow.holds Try.pinned (OpenSpec.upto fnExactLineOfSpec)

/-- 'laws.FnExactOpen', WHERE WHAT IT READS IS OF BULK AT MOST 1048576: true; the input reads as it did. -/
def fnExactOpenUptoRow : OpenClaim := { program := "ytnmlkaoaandemaa", sum := "c25087faa8d53701849a2fa2f4db43ed552403a4f1ca6f8d1b2b4adc76f09adb", func := "loop.example/g00132/laws.FnExactOpen", spec := "fnExactOpen", apart := false, narrowed := true }
def FnExactOpenUptoSaid : Prop := fnExactOpenUptoRow.holds Try.pinned (OpenSpec.upto fnExactOpenSpec)

/-- 'laws.FnRows', WHERE WHAT IT READS IS OF BULK AT MOST 1048576: true; the input reads as it did. -/
def fnRowsUptoRow : OpenClaim := { program := "ytnmlkaoaandemaa", sum := "c25087faa8d53701849a2fa2f4db43ed552403a4f1ca6f8d1b2b4adc76f09adb", func := "loop.example/g00132/laws.FnRows", spec := "fnRows", apart := false, narrowed := true }
def FnRowsUptoSaid : Prop := fnRowsUptoRow.holds Try.pinned (OpenSpec.upto fnRowsSpec)

/-- 'laws.FnExactOffsetOf', WHERE WHAT IT READS IS OF BULK AT MOST 1048576: true; the input reads as it did. -/
def fnExactOffsetOfUptoRow : OpenClaim := { program := "ytnmlkaoaandemaa", sum := "c25087faa8d53701849a2fa2f4db43ed552403a4f1ca6f8d1b2b4adc76f09adb", func := "loop.example/g00132/laws.FnExactOffsetOf", spec := "fnExactOffsetOf", apart := false, narrowed := true }
def FnExactOffsetOfUptoSaid : Prop := fnExactOffsetOfUptoRow.holds Try.pinned (OpenSpec.upto fnExactOffsetOfSpec)

/-- 'laws.FnExactCountOf', WHERE WHAT IT READS IS OF BULK AT MOST 1048576: true; the input reads as it did. -/
def fnExactCountOfUptoRow : OpenClaim := { program := "ytnmlkaoaandemaa", sum := "c25087faa8d53701849a2fa2f4db43ed552403a4f1ca6f8d1b2b4adc76f09adb", func := "loop.example/g00132/laws.FnExactCountOf", spec := "fnExactCountOf", apart := false, narrowed := true }
def FnExactCountOfUptoSaid : Prop := fnExactCountOfUptoRow.holds Try.pinned (OpenSpec.upto fnExactCountOfSpec)

/-- 'laws.FnExactClassHas', WHERE WHAT IT READS IS OF BULK AT MOST 1048576: true; the input reads as it did. -/
def fnExactClassHasUptoRow : OpenClaim := { program := "ytnmlkaoaandemaa", sum := "c25087faa8d53701849a2fa2f4db43ed552403a4f1ca6f8d1b2b4adc76f09adb", func := "loop.example/g00132/laws.FnExactClassHas", spec := "fnExactClassHas", apart := false, narrowed := true }
def FnExactClassHasUptoSaid : Prop := fnExactClassHasUptoRow.holds Try.pinned (OpenSpec.upto fnExactClassHasSpec)

/-- 'laws.FnExactClassOf', WHERE WHAT IT READS IS OF BULK AT MOST 1048576: true; the input reads as it did. -/
def fnExactClassOfUptoRow : OpenClaim := { program := "ytnmlkaoaandemaa", sum := "c25087faa8d53701849a2fa2f4db43ed552403a4f1ca6f8d1b2b4adc76f09adb", func := "loop.example/g00132/laws.FnExactClassOf", spec := "fnExactClassOf", apart := false, narrowed := true }
def FnExactClassOfUptoSaid : Prop := fnExactClassOfUptoRow.holds Try.pinned (OpenSpec.upto fnExactClassOfSpec)

end Rows
end Go.Proofs.Ytnmlkaoaandemaa
