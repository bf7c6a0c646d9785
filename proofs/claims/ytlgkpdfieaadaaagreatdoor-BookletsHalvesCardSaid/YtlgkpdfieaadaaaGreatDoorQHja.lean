import Derived.Test.YtlgkpdfieaadaaaGreatDoorRows
import Derived.Test.YtlgkpdfieaadaaaGreatDoorTie
import Derived.JoinedOf
import Derived.KernelRfl
namespace Go.Proofs.YtlgkpdfieaadaaaGreatDoor.bhlv
theorem Ae2:(Rows.bookletsHalvesRow.inPlace==Tryz.prog.inPlace 3)=true:=by kernel_rfl
end Go.Proofs.YtlgkpdfieaadaaaGreatDoor.bhlv
