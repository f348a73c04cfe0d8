/- A closed fact of this program, which the rows of its laws ask for.
   Conditions: none. -/
import Derived.Test.YtlmiojnkjlnmjaaRows
import Derived.JoinedOf
import Derived.KernelRfl
namespace Go.Proofs.Ytlmiojnkjlnmjaa
open Go
theorem factMake : (Try.pinned.checked.prog.make == some Rows.fnExactSavedTimeRow.make) = true := by kernel_rfl
end Go.Proofs.Ytlmiojnkjlnmjaa
