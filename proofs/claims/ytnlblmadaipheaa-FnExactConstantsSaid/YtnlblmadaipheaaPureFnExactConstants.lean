/- The law FnExactConstants returns true: each constant of the program is the one that it is held against.
   Conditions: none beside the statement's own. -/
import Derived.Test.YtnlblmadaipheaaPFnExactConstantsx1
namespace Go.Proofs.Ytnlblmadaipheaa.Pure
open Go.RowKit Go.Proofs.Ytnlblmadaipheaa.PFnExactConstants Go.Proofs.YtnlblmadaipheaaW.PrintWords Go.Proofs.YtnlblmadaipheaaW.PrintLast

theorem FnExactConstants : laws_FnExactConstants.Pure := rfl

end Go.Proofs.Ytnlblmadaipheaa.Pure
