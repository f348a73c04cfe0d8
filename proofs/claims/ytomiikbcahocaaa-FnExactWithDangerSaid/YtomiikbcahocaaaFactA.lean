/- A closed fact of this program, which the rows of its laws ask for.
   Conditions: none. -/
import Derived.Test.YtomiikbcahocaaaRows
import Derived.JoinedOf
import Derived.KernelRfl
namespace Go.Proofs.Ytomiikbcahocaaa
open Go
theorem factMay : Try.pinned.checked.prog.mayEnter = true := by kernel_rfl
end Go.Proofs.Ytomiikbcahocaaa
