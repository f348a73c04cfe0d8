/- Whether a bool occurs in a list: what the printed library function comes to.
   Conditions: stated with each. -/
import Derived.Test.YtomiikbcahocaaaPureAPy
namespace Go.Proofs.Ytomiikbcahocaaa.Pure
open Go.RowKit Go.Proofs.Ytomiikbcahocaaa.G Go.Proofs.YtomiikbcahocaaaW.PrintWords


end Go.Proofs.Ytomiikbcahocaaa.Pure
