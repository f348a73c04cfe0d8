/- Whether a bool occurs in a list: what the printed library function comes to.
   Conditions: stated with each. -/
import Derived.Test.YtlbmbofhbficgaaPureALs
namespace Go.Proofs.Ytlbmbofhbficgaa.Pure
open Go.RowKit Go.Proofs.Ytlbmbofhbficgaa.G Go.Proofs.YtlbmbofhbficgaaW.PrintWords


end Go.Proofs.Ytlbmbofhbficgaa.Pure
