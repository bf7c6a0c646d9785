/- BookletsSections: the row starts no thread, reckoned by the kernel. -/
import Derived.Test.YtdkijcmhjeaofaaGreatDoorRows
import Derived.Test.YtdkijcmhjeaofaaGreatDoorTie
import Derived.Test.YtdkijcmhjeaofaaGreatDoorCards
import Derived.SevenTiedAt
import Derived.KernelRfl
namespace Go.Proofs.YtdkijcmhjeaofaaGreatDoor.bsec
theorem k_goes : false = Rows.bookletsSectionsRow.goesBy Tryz.pinned.checked.prog := by kernel_rfl
end Go.Proofs.YtdkijcmhjeaofaaGreatDoor.bsec
