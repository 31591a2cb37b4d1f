/- The bytes of a letter, as a list of numbers. -/
import Derived.Test.YtabpfejdppfcdaaKit
namespace Go.Proofs.Ytabpfejdppfcdaa.Kit
open Go.RowKit Go.Proofs.YtabpfejdppfcdaaW.PrintWords Go.Proofs.YtabpfejdppfcdaaW.PrintLast Go.Proofs.YtabpfejdppfcdaaW.PrintMore

def isLetterM (n : Int) : Prop := (0 ≤ n ∧ n ≤ 1114111) ∧ ¬ (55296 ≤ n ∧ n ≤ 57343)
instance (n : Int) : Decidable (isLetterM n) := by unfold isLetterM; infer_instance

/-- the bytes of a number that is at least 0 and small enough -/
def lbM (n : Int) : List Int :=
  if n < 128 then [n]
  else if n < 2048 then [192 + n / 64, 128 + n % 64]
  else if n < 65536 then [224 + n / 4096, 128 + n / 64 % 64, 128 + n % 64]
  else [240 + n / 262144, 128 + n / 4096 % 64, 128 + n / 64 % 64, 128 + n % 64]

end Go.Proofs.Ytabpfejdppfcdaa.Kit
