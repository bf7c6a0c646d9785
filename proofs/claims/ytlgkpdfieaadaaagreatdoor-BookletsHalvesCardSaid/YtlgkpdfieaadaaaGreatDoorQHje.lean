import Derived.Test.YtlgkpdfieaadaaaGreatDoorQHja
import Derived.Test.YtlgkpdfieaadaaaGreatDoorQHjb
import Derived.Test.YtlgkpdfieaadaaaGreatDoorQHjc
import Derived.Test.YtlgkpdfieaadaaaGreatDoorQHjd
namespace Go.Proofs.YtlgkpdfieaadaaaGreatDoor.bhlv
theorem Bu2:joinedFacts Tryz.prog 3 Tryz.f3 Rows.bookletsHalvesSpec Rows.bookletsHalvesRow=true:=by
 unfold joinedFacts;rw[Ae2,lC,tP,Bi5]
 kernel_rfl
end Go.Proofs.YtlgkpdfieaadaaaGreatDoor.bhlv
