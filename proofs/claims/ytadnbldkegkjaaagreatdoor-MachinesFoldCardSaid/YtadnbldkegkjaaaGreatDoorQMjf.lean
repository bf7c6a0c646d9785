/- MachinesFold: what the row says of the program's text, reckoned by the kernel. -/
import Derived.Test.YtadnbldkegkjaaaGreatDoorRows
import Derived.Test.YtadnbldkegkjaaaGreatDoorTie
import Derived.JoinedOf
import Derived.KernelRfl
namespace Go.Proofs.YtadnbldkegkjaaaGreatDoor.mfld
theorem Aa6:joinedFacts Tryz.prog 4 Tryz.f4 Rows.machinesFoldSpec Rows.machinesFoldRow=true:=by kernel_rfl
end Go.Proofs.YtadnbldkegkjaaaGreatDoor.mfld
