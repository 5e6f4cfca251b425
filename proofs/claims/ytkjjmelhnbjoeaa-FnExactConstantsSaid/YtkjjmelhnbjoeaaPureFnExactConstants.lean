/- The pure statement of the law FnExactConstants is proved: for every input that the law speaks of, the law's function answers true. No conditions beyond the statement's own. -/
import Derived.Test.YtkjjmelhnbjoeaaPFnExactConstantsx1
namespace Go.Proofs.Ytkjjmelhnbjoeaa.Pure
open Go.RowKit Go.Proofs.Ytkjjmelhnbjoeaa.PFnExactConstants Go.Proofs.YtkjjmelhnbjoeaaW.PrintWords Go.Proofs.YtkjjmelhnbjoeaaW.PrintLast
set_option linter.unusedVariables false

theorem FnExactConstants : laws_FnExactConstants.Pure := rfl

end Go.Proofs.Ytkjjmelhnbjoeaa.Pure
