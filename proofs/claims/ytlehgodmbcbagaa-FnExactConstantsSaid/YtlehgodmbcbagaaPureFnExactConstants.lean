/- Every exported constant of the program is the document's: the law's function answers true. No conditions. -/
import Derived.Test.YtlehgodmbcbagaaPFnExactConstantsx1
namespace Go.Proofs.Ytlehgodmbcbagaa.Pure
open Go.RowKit Go.Proofs.Ytlehgodmbcbagaa.PFnExactConstants Go.Proofs.YtlehgodmbcbagaaW.PrintWords Go.Proofs.YtlehgodmbcbagaaW.PrintLast

theorem FnExactConstants : laws_FnExactConstants.Pure := by
  unfold laws_FnExactConstants.Pure laws_FnExactConstants.f
  rfl

end Go.Proofs.Ytlehgodmbcbagaa.Pure
