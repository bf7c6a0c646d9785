import Derived.Test.YtlgkpdfieaadaaaGreatDoorRows
import Derived.Test.YtlgkpdfieaadaaaGreatDoorTie
import Derived.JoinedOf
import Derived.KernelRfl
namespace Go.Proofs.YtlgkpdfieaadaaaGreatDoor.bhlv
theorem Bi5:(Rows.bookletsHalvesRow.named==Tryz.prog.varsNamed 3)=true:=by kernel_rfl
end Go.Proofs.YtlgkpdfieaadaaaGreatDoor.bhlv
