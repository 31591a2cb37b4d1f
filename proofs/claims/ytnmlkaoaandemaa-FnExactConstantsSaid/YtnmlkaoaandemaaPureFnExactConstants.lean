/- The program's constants are the reference's. -/
import Derived.Test.YtnmlkaoaandemaaPFnExactConstantsx1
import Derived.Test.YtnmlkaoaandemaaKit
namespace Go.Proofs.Ytnmlkaoaandemaa.Pure
open Go.RowKit Go.Proofs.Ytnmlkaoaandemaa.PFnExactConstants Go.Proofs.YtnmlkaoaandemaaW.PrintWords Go.Proofs.YtnmlkaoaandemaaW.PrintLast Go.Proofs.YtnmlkaoaandemaaW.PrintMore Go.Proofs.Ytnmlkaoaandemaa.Kit

theorem FnExactConstants : laws_FnExactConstants.Pure := rfl
end Go.Proofs.Ytnmlkaoaandemaa.Pure
