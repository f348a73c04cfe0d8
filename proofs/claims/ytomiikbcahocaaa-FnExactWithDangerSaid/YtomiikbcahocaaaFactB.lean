/- A closed fact of this program, which the rows of its laws ask for.
   Conditions: none. -/
import Derived.Test.YtomiikbcahocaaaRows
import Derived.JoinedOf
import Derived.KernelRfl
namespace Go.Proofs.Ytomiikbcahocaaa
open Go
theorem factLifts : (Rows.fnExactIsKeepRow.lifted == Try.pinned.checked.prog.liftsFinal) = true := by kernel_rfl
end Go.Proofs.Ytomiikbcahocaaa
