/- BookletsSections: no look of the program's own is met, reckoned by the kernel. -/
import Derived.Test.YtdkijcmhjeaofaaGreatDoorRows
import Derived.Test.YtdkijcmhjeaofaaGreatDoorTie
import Derived.Test.YtdkijcmhjeaofaaGreatDoorCards
import Derived.SevenTiedAt
import Derived.KernelRfl
namespace Go.Proofs.YtdkijcmhjeaofaaGreatDoor.bsec
theorem k_looks : false = Tryz.pinned.checked.prog.looks [] := by kernel_rfl
end Go.Proofs.YtdkijcmhjeaofaaGreatDoor.bsec
