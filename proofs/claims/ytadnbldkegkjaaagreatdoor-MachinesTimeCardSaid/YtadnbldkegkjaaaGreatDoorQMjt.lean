import Derived.Test.YtadnbldkegkjaaaGreatDoorRows
import Derived.Test.YtadnbldkegkjaaaGreatDoorTie
import Derived.JoinedOf
import Derived.KernelRfl
namespace Go.Proofs.YtadnbldkegkjaaaGreatDoor.mtime
theorem Aa6:joinedFacts Tryz.prog 3 Tryz.f3 Rows.machinesTimeSpec Rows.machinesTimeRow=true:=by kernel_rfl
end Go.Proofs.YtadnbldkegkjaaaGreatDoor.mtime
