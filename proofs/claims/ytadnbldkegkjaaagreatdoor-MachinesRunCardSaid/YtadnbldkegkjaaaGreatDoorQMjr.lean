/- MachinesRun: what the row says of the program's text, reckoned by the kernel. -/
import Derived.Test.YtadnbldkegkjaaaGreatDoorRows
import Derived.Test.YtadnbldkegkjaaaGreatDoorTie
import Derived.JoinedOf
import Derived.KernelRfl
namespace Go.Proofs.YtadnbldkegkjaaaGreatDoor.mrun
theorem Aa6:joinedFacts Tryz.prog 5 Tryz.f5 Rows.machinesRunSpec Rows.machinesRunRow=true:=by kernel_rfl
end Go.Proofs.YtadnbldkegkjaaaGreatDoor.mrun
