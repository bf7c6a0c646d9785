import Derived.Test.YtlgkpdfieaadaaaGreatDoorRows
import Derived.Test.YtlgkpdfieaadaaaGreatDoorTie
import Derived.JoinedOf
import Derived.KernelRfl
namespace Go.Proofs.YtlgkpdfieaadaaaGreatDoor.bhlv
theorem tP:(Rows.bookletsHalvesRow.recurses==Tryz.prog.recurses 3)=true:=by kernel_rfl
end Go.Proofs.YtlgkpdfieaadaaaGreatDoor.bhlv
