/- BookletsSections: what the row says of the program's text, reckoned by the kernel. -/
import Derived.Test.YtdkijcmhjeaofaaGreatDoorRows
import Derived.Test.YtdkijcmhjeaofaaGreatDoorTie
import Derived.JoinedOf
import Derived.KernelRfl
namespace Go.Proofs.YtdkijcmhjeaofaaGreatDoor.bsec
theorem joined : joinedFacts Tryz.prog 3 Tryz.f3 Rows.bookletsSectionsSpec Rows.bookletsSectionsRow = true := by kernel_rfl
end Go.Proofs.YtdkijcmhjeaofaaGreatDoor.bsec
