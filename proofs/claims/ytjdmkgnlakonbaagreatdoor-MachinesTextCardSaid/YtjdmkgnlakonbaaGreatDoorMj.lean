/- MachinesText: what the row says of the program's text, reckoned by the kernel. -/
import Derived.Test.YtjdmkgnlakonbaaGreatDoorRows
import Derived.Test.YtjdmkgnlakonbaaGreatDoorTie
import Derived.JoinedOf
import Derived.KernelRfl
namespace Go.Proofs.YtjdmkgnlakonbaaGreatDoor.mtext
theorem joined : joinedFacts Tryz.prog 3 Tryz.f3 Rows.machinesTextSpec Rows.machinesTextRow = true := by kernel_rfl
end Go.Proofs.YtjdmkgnlakonbaaGreatDoor.mtext
