/- SignaturesHalves: what the row says of the program's text, reckoned by the kernel. -/
import Derived.Test.YtdkijcmhjeaofaaGreatDoorRows
import Derived.Test.YtdkijcmhjeaofaaGreatDoorTie
import Derived.JoinedOf
import Derived.KernelRfl
namespace Go.Proofs.YtdkijcmhjeaofaaGreatDoor.halves
theorem joined : joinedFacts Tryz.prog 4 Tryz.f4 Rows.signaturesHalvesSpec Rows.signaturesHalvesRow = true := by kernel_rfl
end Go.Proofs.YtdkijcmhjeaofaaGreatDoor.halves
